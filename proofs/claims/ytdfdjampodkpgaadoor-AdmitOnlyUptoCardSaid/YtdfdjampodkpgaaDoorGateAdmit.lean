/- Gate: who is admitted. -/
import Derived.Test.YtdfdjampodkpgaaDoorGateRead
import Derived.Test.YtdfdjampodkpgaaDoorGatePasses
import Derived.Deep.RegionHeld3
set_option linter.unusedSimpArgs false
set_option linter.unusedVariables false
namespace Go.Proofs.YtdfdjampodkpgaaDoor
open Go.RowKit
namespace Gt
open Sn Pa Rg Tg
abbrev psOf (t : Tk) : Ps := ⟨t.id, 1, t.a, t.b, t.ser⟩
/-- a token that was read, at passes, on a day, in a zone -/
def admT (r : Tk × List Sp) (xs : List Px) (n z : Int) : Int :=
  if atX xs r.1.id < 0 then 5 else match xs[(atX xs r.1.id).toNat]? with
  | none => 5
  | some x => if x.p.ser ≠ r.1.ser then 4 else if rawB (psOf r.1) r.2 n z = false then 3 else if rawB x.p x.l n z = false then 3 else 0
def rawG (eps : List Ep) (xs : List Px) (t : ByteArray) (n z : Int) : Int :=
  if (rdF eps t).2 ≠ 0 then (rdF eps t).2 else admT (rdF eps t).1 xs n z
theorem atX_cases (xs : List Px) (id : Int) : (atX xs id < 0 ∧ atX xs id = -1) ∨ (∃ k, ∃ h : k < xs.length, atX xs id = (k : Int) ∧ xs[k].p.id = id) := by
  unfold atX findI
  have hle := findN_le (isX id) xs
  have hs := findN_spec (isX id) xs
  by_cases h : findN (isX id) xs = xs.length
  · rw [if_pos h]; exact .inl ⟨by omega, rfl⟩
  · rw [if_neg h]
    refine .inr ⟨_, by omega, rfl, ?_⟩
    have h2 := hs.2 (by omega)
    unfold isX at h2 ⊢
    simpa using h2
theorem admT_none {r : Tk × List Sp} {xs : List Px} {n z : Int} (h : atX xs r.1.id < 0) : admT r xs n z = 5 := by unfold admT; rw [if_pos h]
theorem admT_some {r : Tk × List Sp} {xs : List Px} {n z : Int} {k : Nat} (hk : k < xs.length) (h : atX xs r.1.id = (k : Int)) :
    admT r xs n z = if xs[k].p.ser ≠ r.1.ser then 4 else if rawB (psOf r.1) r.2 n z = false then 3 else if rawB xs[k].p xs[k].l n z = false then 3 else 0 := by
  unfold admT
  rw [h, if_neg (by omega), Int.toNat_natCast, List.getElem?_eq_getElem hk]
set_option maxRecDepth 100000 in
set_option maxHeartbeats 4000000 in
theorem raw_any (v u : Value) (eps : List Ep) (xs : List Px) (t : ByteArray) (n z : Int) (ht : t.size ≤ 1100000) (w : World) (hv : Rd 3 Rg.eE w v eps) (hx : RdX w u xs) (hT : Sl.Tab w) :
    Calls Tryd.prog 40 #[v, u, .string t, .int .i64 n, .int .i64 z] w (IntQ (rawG eps xs t n z) w) := by
  obtain ⟨R, hR⟩ : ∃ R, rawG eps xs t n z = R := ⟨_, rfl⟩
  rw [hR]
  unfold rawG at hR
  have CR := Lib.hid (read_any v eps t ht w hv hT)
  unfold RdQ at CR
  clear hT ht
  generalize rdF eps t = G at *
  obtain ⟨⟨⟨ki, ka, kb, ks⟩, kl⟩, E⟩ := G
  simp only at hR
  have HX := Lib.hid hx
  have CA := Lib.hid (fun w' (hb : Below w.heap.size w w') => at_any ki u xs w' (hx.rd.below hb))
  have hle := hx.rd.len_le
  obtain ⟨ua, uc, rfl, h1, h2, h3⟩ := hx.rd
  have H3 := Lib.hid h3; clear h3 hx
  have HR := Lib.hid hR; clear hR
  by_cases c1 : E ≠ 0
  · have hn : (E != 0) = true := by simpa using c1
    have hR2 : R = E := by rw [← HR.out, if_pos c1]
    have HR2 := Lib.hid hR2; clear hR2 HR c1
    go_enter Tryd.func40, Tryd.ntmps40
    go_wp2_with fail
    refine CR.out.mono ?_
    rintro en w1 ⟨d, rfl, hrd1, hoff1, hb1⟩
    simp only at hrd1 ⊢
    have HRD1 := Lib.hid hrd1
    obtain ⟨da, dc, rfl, _, _, _⟩ := hrd1
    have HK := Lib.hid (Box.new w1 30 [.int .i64 ki, .int .i64 ka, .int .i64 kb, .int .i64 ks, .slice da kl.length dc])
    have hba := (br w1).alloc (Nat.le_refl _) (.cells #[.int .i64 ki, .int .i64 ka, .int .i64 kb, .int .i64 ks, .slice da kl.length dc] 30)
    have HBa := Lib.hid (bt hb1 hba)
    have HRDa := Lib.hid (HRD1.out.below hba)
    clear hba hoff1 hb1
    go_wp2
    go_ret
    exact ⟨by rw [HR2.out]; rfl, HBa.out⟩
  have hE0 : E = 0 := by simpa using c1
  have hra := HR.out; rw [if_neg c1] at hra; have HRa := Lib.hid hra; clear hra HR c1
  subst hE0
  rcases atX_cases xs ki with ⟨ha, ha'⟩ | ⟨k, hk, ha, hid⟩
  · have hR2 : R = 5 := by rw [← HRa.out]; exact admT_none ha
    have HR2 := Lib.hid hR2; clear hR2 HRa ha
    rw [ha'] at CA; clear ha'
    go_enter Tryd.func40, Tryd.ntmps40
    go_wp2_with fail
    refine CR.out.mono ?_
    rintro en w1 ⟨d, rfl, hrd1, hoff1, hb1⟩
    simp only at hrd1 ⊢
    have HRD1 := Lib.hid hrd1
    obtain ⟨da, dc, rfl, _, _, _⟩ := hrd1
    have HK := Lib.hid (Box.new w1 30 [.int .i64 ki, .int .i64 ka, .int .i64 kb, .int .i64 ks, .slice da kl.length dc])
    have hba := (br w1).alloc (Nat.le_refl _) (.cells #[.int .i64 ki, .int .i64 ka, .int .i64 kb, .int .i64 ks, .slice da kl.length dc] 30)
    have HBa := Lib.hid (bt hb1 hba)
    have HRDa := Lib.hid (HRD1.out.below hba)
    clear hba hoff1 hb1
    have hk1 := HK.out
    have e0 := hk1.cell 0; simp only [List.getElem?_cons_zero] at e0
    clear hk1
    go_wp2_with fail
    refine (CA.out _ HBa.out).mono ?_
    rintro en w2 ⟨rfl, hb2⟩
    have HK2 := Lib.hid (HK.out.next hb2); have HB2 := Lib.hid (bt HBa.out hb2); have HRD2 := Lib.hid (HRDa.out.below hb2); clear hb2 e0
    go_wp2
    go_ret
    exact ⟨by rw [HR2.out]; rfl, HB2.out⟩
  have hrb := HRa.out
  rw [admT_some hk ha] at hrb
  simp only at hrb
  have HRb := Lib.hid hrb; clear hrb HRa hid
  rw [ha] at CA; clear ha
  obtain ⟨g, off, rfl, hbl, hc⟩ := H3.out (by omega)
  obtain ⟨q0, q1, q2, q3, q4, q5⟩ := eX_at hc k hk
  have CAS := Lib.hid (fun dd w' (h : RdE elS w' dd kl) => asPass_any ⟨ki, ka, kb, ks⟩ dd kl w' h)
  have CP1 := Lib.hid (fun dd w' (h : RdE elS w' dd kl) => Pa.raw_any ⟨ki, 1, ka, kb, ks⟩ dd kl n z w' h)
  have CP2 := Lib.hid (fun w' (hb : Below w.heap.size w w') => Pa.raw_any xs[k].p xs[k].v xs[k].l n z w' ((HX.out.ln _ (List.getElem_mem hk)).below hb))
  have i1 : (k : Int) < (xs.length : Int) := by omega
  have i0 : (0 : Int) ≤ (k : Int) := by omega
  have i2 : ¬ (k : Int) < 0 := by omega
  clear hc H3 HX
  simp only [psOf] at HRb
  unfold aT at CAS
  unfold aP at CAS
  unfold aP at CP1
  unfold aP Px.v at CP2
  unfold Px.v at q5
  simp only at CAS
  generalize rawB ⟨ki, 1, ka, kb, ks⟩ kl n z = B1 at *
  generalize rawB xs[k].p xs[k].l n z = B2 at *
  generalize xs[k].p.id = t0 at *
  generalize xs[k].p.born = t1 at *
  generalize xs[k].p.a = t2 at *
  generalize xs[k].p.b = t3 at *
  generalize xs[k].p.ser = t4 at *
  generalize xs[k].a = pa at *; generalize xs[k].l.length = pl at *; generalize xs[k].cap = pc at *
  have Q0 := Lib.hid q0; have Q1 := Lib.hid q1; have Q2 := Lib.hid q2; have Q3 := Lib.hid q3; have Q4 := Lib.hid q4; have Q5 := Lib.hid q5
  clear q0 q1 q2 q3 q4 q5
  by_cases c2 : t4 ≠ ks
  · have hn : (t4 != ks) = true := by simpa using c2
    have hR2 : R = 4 := by rw [← HRb.out, if_pos c2]
    have HR2 := Lib.hid hR2; clear hR2 HRb c2
    go_enter Tryd.func40, Tryd.ntmps40
    go_wp2_with fail
    refine CR.out.mono ?_
    rintro en w1 ⟨d, rfl, hrd1, hoff1, hb1⟩
    simp only at hrd1 ⊢
    have HRD1 := Lib.hid hrd1
    obtain ⟨da, dc, rfl, _, _, _⟩ := hrd1
    have HK := Lib.hid (Box.new w1 30 [.int .i64 ki, .int .i64 ka, .int .i64 kb, .int .i64 ks, .slice da kl.length dc])
    have hba := (br w1).alloc (Nat.le_refl _) (.cells #[.int .i64 ki, .int .i64 ka, .int .i64 kb, .int .i64 ks, .slice da kl.length dc] 30)
    have HBa := Lib.hid (bt hb1 hba)
    have HRDa := Lib.hid (HRD1.out.below hba)
    clear hba hoff1 hb1
    have hk1 := HK.out
    have e0 := hk1.cell 0; simp only [List.getElem?_cons_zero] at e0
    clear hk1
    go_wp2_with fail
    refine (CA.out _ HBa.out).mono ?_
    rintro en w2 ⟨rfl, hb2⟩
    have HK2 := Lib.hid (HK.out.next hb2); have HB2 := Lib.hid (bt HBa.out hb2); have HRD2 := Lib.hid (HRDa.out.below hb2); clear hb2 e0
    have d4 := (HB2.out.cell (p := ⟨g, off + k * 6 + 4, none⟩) hbl).trans Q4.out
    have hk2 := HK2.out
    have e0 := hk2.cell 0
    have e1 := hk2.cell 1
    have e2 := hk2.cell 2
    have e3 := hk2.cell 3
    have e4 := hk2.cell 4
    simp only [List.getElem?_cons_zero, List.getElem?_cons_succ] at e0 e1 e2 e3 e4
    clear hk2
    go_wp2_with fail
    go_quiet (fail)
    go_wp2
    go_ret
    exact ⟨by rw [HR2.out]; rfl, by first | exact HB2.out | exact bn HB2.out _⟩
  have hks : t4 = ks := by simpa using c2
  have hrc := HRb.out; rw [if_neg c2] at hrc; have HRc := Lib.hid hrc; clear hrc HRb c2
  obtain rfl : ks = t4 := hks.symm
  have hn : (ks != ks) = false := by simp
  cases B1
  · have hR2 : R = 3 := by rw [← HRc.out]; rfl
    have HR2 := Lib.hid hR2; clear hR2 HRc
    go_enter Tryd.func40, Tryd.ntmps40
    go_wp2_with fail
    refine CR.out.mono ?_
    rintro en w1 ⟨d, rfl, hrd1, hoff1, hb1⟩
    simp only at hrd1 ⊢
    have HRD1 := Lib.hid hrd1
    obtain ⟨da, dc, rfl, _, _, _⟩ := hrd1
    have HK := Lib.hid (Box.new w1 30 [.int .i64 ki, .int .i64 ka, .int .i64 kb, .int .i64 ks, .slice da kl.length dc])
    have hba := (br w1).alloc (Nat.le_refl _) (.cells #[.int .i64 ki, .int .i64 ka, .int .i64 kb, .int .i64 ks, .slice da kl.length dc] 30)
    have HBa := Lib.hid (bt hb1 hba)
    have HRDa := Lib.hid (HRD1.out.below hba)
    clear hba hoff1 hb1
    have hk1 := HK.out
    have e0 := hk1.cell 0; simp only [List.getElem?_cons_zero] at e0
    clear hk1
    go_wp2_with fail
    refine (CA.out _ HBa.out).mono ?_
    rintro en w2 ⟨rfl, hb2⟩
    have HK2 := Lib.hid (HK.out.next hb2); have HB2 := Lib.hid (bt HBa.out hb2); have HRD2 := Lib.hid (HRDa.out.below hb2); clear hb2 e0
    have d4 := (HB2.out.cell (p := ⟨g, off + k * 6 + 4, none⟩) hbl).trans Q4.out
    have hk2 := HK2.out
    have e0 := hk2.cell 0
    have e1 := hk2.cell 1
    have e2 := hk2.cell 2
    have e3 := hk2.cell 3
    have e4 := hk2.cell 4
    simp only [List.getElem?_cons_zero, List.getElem?_cons_succ] at e0 e1 e2 e3 e4
    clear hk2
    go_wp2_with fail
    go_quiet (fail)
    go_wp2_with fail
    refine (CAS.out _ _ (by first | exact HRD2.out | exact HRD2.out.below (bn (br _) _))).mono ?_
    rintro en w4 ⟨rfl, hb4⟩
    have HB4 : RowKit.Hid (Below w.heap.size w w4) := Lib.hid (by first | exact bt HB2.out hb4 | exact bt (bn HB2.out _) hb4)
    have HRD4 : RowKit.Hid (RdE elS w4 (.slice da kl.length dc) kl) := Lib.hid (by first | exact HRD2.out.below hb4 | exact (HRD2.out.below (bn (br _) _)).below hb4)
    clear d4 e0 e1 e2 e3 e4
    clear hb4
    go_wp2_with fail
    refine (CP1.out _ _ HRD4.out).mono ?_
    rintro en w5 ⟨rfl, hb5⟩
    have HB5 := Lib.hid (bt HB4.out hb5); clear hb5
    go_wp2
    go_ret
    exact ⟨by rw [HR2.out]; rfl, HB5.out⟩
  cases B2
  · have hR2 : R = 3 := by rw [← HRc.out]; rfl
    have HR2 := Lib.hid hR2; clear hR2 HRc
    go_enter Tryd.func40, Tryd.ntmps40
    go_wp2_with fail
    refine CR.out.mono ?_
    rintro en w1 ⟨d, rfl, hrd1, hoff1, hb1⟩
    simp only at hrd1 ⊢
    have HRD1 := Lib.hid hrd1
    obtain ⟨da, dc, rfl, _, _, _⟩ := hrd1
    have HK := Lib.hid (Box.new w1 30 [.int .i64 ki, .int .i64 ka, .int .i64 kb, .int .i64 ks, .slice da kl.length dc])
    have hba := (br w1).alloc (Nat.le_refl _) (.cells #[.int .i64 ki, .int .i64 ka, .int .i64 kb, .int .i64 ks, .slice da kl.length dc] 30)
    have HBa := Lib.hid (bt hb1 hba)
    have HRDa := Lib.hid (HRD1.out.below hba)
    clear hba hoff1 hb1
    have hk1 := HK.out
    have e0 := hk1.cell 0; simp only [List.getElem?_cons_zero] at e0
    clear hk1
    go_wp2_with fail
    refine (CA.out _ HBa.out).mono ?_
    rintro en w2 ⟨rfl, hb2⟩
    have HK2 := Lib.hid (HK.out.next hb2); have HB2 := Lib.hid (bt HBa.out hb2); have HRD2 := Lib.hid (HRDa.out.below hb2); clear hb2 e0
    have d4 := (HB2.out.cell (p := ⟨g, off + k * 6 + 4, none⟩) hbl).trans Q4.out
    have hk2 := HK2.out
    have e0 := hk2.cell 0
    have e1 := hk2.cell 1
    have e2 := hk2.cell 2
    have e3 := hk2.cell 3
    have e4 := hk2.cell 4
    simp only [List.getElem?_cons_zero, List.getElem?_cons_succ] at e0 e1 e2 e3 e4
    clear hk2
    go_wp2_with fail
    go_quiet (fail)
    go_wp2_with fail
    refine (CAS.out _ _ (by first | exact HRD2.out | exact HRD2.out.below (bn (br _) _))).mono ?_
    rintro en w4 ⟨rfl, hb4⟩
    have HB4 : RowKit.Hid (Below w.heap.size w w4) := Lib.hid (by first | exact bt HB2.out hb4 | exact bt (bn HB2.out _) hb4)
    have HRD4 : RowKit.Hid (RdE elS w4 (.slice da kl.length dc) kl) := Lib.hid (by first | exact HRD2.out.below hb4 | exact (HRD2.out.below (bn (br _) _)).below hb4)
    clear d4 e0 e1 e2 e3 e4
    clear hb4
    go_wp2_with fail
    refine (CP1.out _ _ HRD4.out).mono ?_
    rintro en w5 ⟨rfl, hb5⟩
    have HB5 := Lib.hid (bt HB4.out hb5); clear hb5
    have d0 := (HB5.out.cell (p := ⟨g, off + k * 6, none⟩) hbl).trans Q0.out
    have d1 := (HB5.out.cell (p := ⟨g, off + k * 6 + 1, none⟩) hbl).trans Q1.out
    have d2 := (HB5.out.cell (p := ⟨g, off + k * 6 + 2, none⟩) hbl).trans Q2.out
    have d3 := (HB5.out.cell (p := ⟨g, off + k * 6 + 3, none⟩) hbl).trans Q3.out
    have d4 := (HB5.out.cell (p := ⟨g, off + k * 6 + 4, none⟩) hbl).trans Q4.out
    have d5 := (HB5.out.cell (p := ⟨g, off + k * 6 + 5, none⟩) hbl).trans Q5.out
    go_wp2_with fail
    refine (CP2.out _ HB5.out).mono ?_
    rintro en w6 ⟨rfl, hb6⟩
    have HB6 := Lib.hid (bt HB5.out hb6); clear hb6
    go_wp2
    go_ret
    exact ⟨by rw [HR2.out]; rfl, HB6.out⟩
  · have hR2 : R = 0 := by rw [← HRc.out]; rfl
    have HR2 := Lib.hid hR2; clear hR2 HRc
    go_enter Tryd.func40, Tryd.ntmps40
    go_wp2_with fail
    refine CR.out.mono ?_
    rintro en w1 ⟨d, rfl, hrd1, hoff1, hb1⟩
    simp only at hrd1 ⊢
    have HRD1 := Lib.hid hrd1
    obtain ⟨da, dc, rfl, _, _, _⟩ := hrd1
    have HK := Lib.hid (Box.new w1 30 [.int .i64 ki, .int .i64 ka, .int .i64 kb, .int .i64 ks, .slice da kl.length dc])
    have hba := (br w1).alloc (Nat.le_refl _) (.cells #[.int .i64 ki, .int .i64 ka, .int .i64 kb, .int .i64 ks, .slice da kl.length dc] 30)
    have HBa := Lib.hid (bt hb1 hba)
    have HRDa := Lib.hid (HRD1.out.below hba)
    clear hba hoff1 hb1
    have hk1 := HK.out
    have e0 := hk1.cell 0; simp only [List.getElem?_cons_zero] at e0
    clear hk1
    go_wp2_with fail
    refine (CA.out _ HBa.out).mono ?_
    rintro en w2 ⟨rfl, hb2⟩
    have HK2 := Lib.hid (HK.out.next hb2); have HB2 := Lib.hid (bt HBa.out hb2); have HRD2 := Lib.hid (HRDa.out.below hb2); clear hb2 e0
    have d4 := (HB2.out.cell (p := ⟨g, off + k * 6 + 4, none⟩) hbl).trans Q4.out
    have hk2 := HK2.out
    have e0 := hk2.cell 0
    have e1 := hk2.cell 1
    have e2 := hk2.cell 2
    have e3 := hk2.cell 3
    have e4 := hk2.cell 4
    simp only [List.getElem?_cons_zero, List.getElem?_cons_succ] at e0 e1 e2 e3 e4
    clear hk2
    go_wp2_with fail
    go_quiet (fail)
    go_wp2_with fail
    refine (CAS.out _ _ (by first | exact HRD2.out | exact HRD2.out.below (bn (br _) _))).mono ?_
    rintro en w4 ⟨rfl, hb4⟩
    have HB4 : RowKit.Hid (Below w.heap.size w w4) := Lib.hid (by first | exact bt HB2.out hb4 | exact bt (bn HB2.out _) hb4)
    have HRD4 : RowKit.Hid (RdE elS w4 (.slice da kl.length dc) kl) := Lib.hid (by first | exact HRD2.out.below hb4 | exact (HRD2.out.below (bn (br _) _)).below hb4)
    clear d4 e0 e1 e2 e3 e4
    clear hb4
    go_wp2_with fail
    refine (CP1.out _ _ HRD4.out).mono ?_
    rintro en w5 ⟨rfl, hb5⟩
    have HB5 := Lib.hid (bt HB4.out hb5); clear hb5
    have d0 := (HB5.out.cell (p := ⟨g, off + k * 6, none⟩) hbl).trans Q0.out
    have d1 := (HB5.out.cell (p := ⟨g, off + k * 6 + 1, none⟩) hbl).trans Q1.out
    have d2 := (HB5.out.cell (p := ⟨g, off + k * 6 + 2, none⟩) hbl).trans Q2.out
    have d3 := (HB5.out.cell (p := ⟨g, off + k * 6 + 3, none⟩) hbl).trans Q3.out
    have d4 := (HB5.out.cell (p := ⟨g, off + k * 6 + 4, none⟩) hbl).trans Q4.out
    have d5 := (HB5.out.cell (p := ⟨g, off + k * 6 + 5, none⟩) hbl).trans Q5.out
    go_wp2_with fail
    refine (CP2.out _ HB5.out).mono ?_
    rintro en w6 ⟨rfl, hb6⟩
    have HB6 := Lib.hid (bt HB5.out hb6); clear hb6
    go_wp2
    go_ret
    exact ⟨by rw [HR2.out]; rfl, HB6.out⟩
def admF (eps : List Ep) (xs : List Px) (t : ByteArray) (n z : Int) : Int := if pasE (pls xs) ≠ 0 then pasE (pls xs) else rawG eps xs t n z
theorem admit_any (v u : Value) (eps : List Ep) (xs : List Px) (t : ByteArray) (n z : Int) (ht : t.size ≤ 1100000) (w : World) (hv : Rd 3 Rg.eE w v eps) (hx : RdX w u xs) (hT : Sl.Tab w) :
    Calls Tryd.prog 15 #[v, u, .string t, .int .i64 n, .int .i64 z] w (IntQ (admF eps xs t n z) w) := by
  have CP := Lib.hid (passes_any u xs w hx)
  have CR := Lib.hid (fun w' (hb : Below w.heap.size w w') => raw_any v u eps xs t n z ht w' (hv.below hb) (hx.next hb) (hT.below hb))
  clear hv hx hT ht
  unfold admF
  generalize pasE (pls xs) = E at *
  generalize rawG eps xs t n z = G at *
  by_cases c : E ≠ 0
  · rw [if_pos c]
    have hn : (E != 0) = true := by simpa using c
    clear c
    go_enter Tryd.func15, Tryd.ntmps15
    go_wp2_with fail
    refine CP.out.mono ?_
    rintro en w1 ⟨rfl, hb1⟩
    go_wp2
    go_ret
    exact ⟨rfl, hb1⟩
  · rw [if_neg c]
    have hn : (E != 0) = false := by simpa using c
    clear c
    go_enter Tryd.func15, Tryd.ntmps15
    go_wp2_with fail
    refine CP.out.mono ?_
    rintro en w1 ⟨rfl, hb1⟩
    have HB1 := Lib.hid hb1; clear hb1
    go_wp2_with fail
    refine (CR.out _ HB1.out).mono ?_
    rintro en w2 ⟨rfl, hb2⟩
    go_wp2
    go_ret
    exact ⟨rfl, bt HB1.out hb2⟩
end Gt
end Go.Proofs.YtdfdjampodkpgaaDoor
