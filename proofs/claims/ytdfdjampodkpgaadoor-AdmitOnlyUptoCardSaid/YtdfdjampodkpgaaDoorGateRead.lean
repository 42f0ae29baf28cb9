/- Gate: reading a token. -/
import Derived.Test.YtdfdjampodkpgaaDoorGateTok
import Derived.Test.YtdfdjampodkpgaaDoorGateWrite
import Derived.Test.YtdfdjampodkpgaaDoorJRing
import Derived.Test.YtdfdjampodkpgaaDoorJSpellR
set_option linter.unusedSimpArgs false
set_option linter.unusedVariables false
namespace Go.Proofs.YtdfdjampodkpgaaDoor
open Go.RowKit
namespace Gt
open Sn Pa Rg Tg
def rdF (eps : List Ep) (t : ByteArray) : (Tk × List Sp) × Int :=
  if (Sl.readF (Sl.nt t)).2 ≠ 0 then ((tk0, []), (Sl.readF (Sl.nt t)).2) else
  if (openF eps (Sl.sB (Sl.readF (Sl.nt t)).1)).2.2 ≠ 0 then ((tk0, []), (openF eps (Sl.sB (Sl.readF (Sl.nt t)).1)).2.2) else
  if (tokF (openF eps (Sl.sB (Sl.readF (Sl.nt t)).1)).1.data.toList).2 = true then ((tokF (openF eps (Sl.sB (Sl.readF (Sl.nt t)).1)).1.data.toList).1, 0) else ((tk0, []), 1)
abbrev RdQ (r : (Tk × List Sp) × Int) (w : World) (e : Ending) (w' : World) : Prop := ∃ v, e = .returned (.tuple #[aT r.1.1 v, .int .i64 r.2]) ∧ RdE elS w' v r.1.2 ∧ (∀ b, b < w.heap.size → Off v b) ∧ Below w.heap.size w w'
theorem openF_size (eps : List Ep) (t : ByteArray) : (openF eps t).1.size ≤ t.size := by
  rcases open_cases eps t with ⟨_, e⟩ | ⟨_, _, e⟩ | ⟨_, _, e⟩ | ⟨_, _, _, _, e⟩ | ⟨_, _, _, _, _, e⟩ | ⟨_, _, _, _, _, e⟩
  · rw [e]; exact Nat.zero_le _
  · rw [e]; exact Nat.zero_le _
  · rw [e]; exact Nat.zero_le _
  · rw [e]; exact Nat.zero_le _
  · rw [e]; show ((bodyOf t).extract 1 (t.size - 8)).size ≤ _; rw [ByteArray.size_extract]; omega
  · rw [e]; exact Nat.zero_le _
abbrev Tb (w : World) (b : Nat) (t : Tk) (d : Value) : Prop := Box w b 30 [.int .i64 t.id, .int .i64 t.a, .int .i64 t.b, .int .i64 t.ser, d]
theorem Tb.put {w : World} {b : Nat} {c0 c1 c2 c3 c4 : Value} (h : Box w b 30 [c0, c1, c2, c3, c4]) (t : Tk) (v : Value) :
    Tb (((((w.setCell ⟨b, 0, none⟩ (.int .i64 t.id)).setCell ⟨b, 1, none⟩ (.int .i64 t.a)).setCell ⟨b, 2, none⟩ (.int .i64 t.b)).setCell ⟨b, 3, none⟩ (.int .i64 t.ser)).setCell ⟨b, 4, none⟩ v) b t v :=
  ((((h.set 0 _).set 1 _).set 2 _).set 3 _).set 4 _
theorem below5 {B : Nat} {w w' : World} {b : Nat} (h : Below B w w') (hb : B ≤ b) (v0 v1 v2 v3 v4 : Value) :
    Below B w (((((w'.setCell ⟨b, 0, none⟩ v0).setCell ⟨b, 1, none⟩ v1).setCell ⟨b, 2, none⟩ v2).setCell ⟨b, 3, none⟩ v3).setCell ⟨b, 4, none⟩ v4) :=
  ((((h.setCell hb v0).setCell hb v1).setCell hb v2).setCell hb v3).setCell hb v4
theorem rd_put5 {w : World} {v : Value} {l : List Sp} {b : Nat} (h : RdE elS w v l) (ho : Off v b) (v0 v1 v2 v3 v4 : Value) :
    RdE elS (((((w.setCell ⟨b, 0, none⟩ v0).setCell ⟨b, 1, none⟩ v1).setCell ⟨b, 2, none⟩ v2).setCell ⟨b, 3, none⟩ v3).setCell ⟨b, 4, none⟩ v4) v l :=
  rd_put (rd_put (rd_put (rd_put (rd_put h ho _ _) ho _ _) ho _ _) ho _ _) ho _ _
theorem bS_data (s : ByteArray) : bS s.data.toList = s := by
  cases s; simp
set_option maxRecDepth 100000 in
set_option maxHeartbeats 4000000 in
theorem read_any (v : Value) (eps : List Ep) (t : ByteArray) (ht : t.size ≤ 1100000) (w : World) (hv : Rd 3 Rg.eE w v eps) (hT : Sl.Tab w) : Calls Tryd.prog 10 #[v, .string t] w (RdQ (rdF eps t) w) := by
  obtain ⟨R, hR⟩ : ∃ R, rdF eps t = R := ⟨_, rfl⟩
  rw [hR]
  unfold rdF at hR
  have HV := Lib.hid hv
  have hb0 := (br w).alloc (Nat.le_refl _) (.cells #[.int .i64 0, .int .i64 0, .int .i64 0, .int .i64 0, .slice none 0 0] 30)
  have HX0 := Lib.hid (Box.new w 30 [.int .i64 0, .int .i64 0, .int .i64 0, .int .i64 0, .slice none 0 0])
  have CR := Lib.hid (Sl.read_any t ht _ (hT.below hb0))
  have HB0 := Lib.hid hb0; clear hb0 hT hv
  have hln := Sl.readF_len (Sl.nt t)
  unfold Sl.RQ at CR
  obtain ⟨A, hA⟩ : ∃ A, (Sl.readF (Sl.nt t)).1 = A := ⟨_, rfl⟩
  obtain ⟨E, hE⟩ : ∃ E, (Sl.readF (Sl.nt t)).2 = E := ⟨_, rfl⟩
  rw [hA, hE] at hR CR
  rw [hA] at hln
  clear hA hE
  have hsz := Sl.sB_size A
  generalize Sl.sB A = S at *
  have CO := Lib.hid (fun w' (hb : Below w.heap.size w w') => open_any v eps S (by omega) w' (HV.out.below hb))
  have hos := openF_size eps S
  unfold OpenQ at CO
  obtain ⟨T, hT⟩ : ∃ T, (openF eps S).1 = T := ⟨_, rfl⟩
  obtain ⟨N, hN⟩ : ∃ N, (openF eps S).2.1 = N := ⟨_, rfl⟩
  obtain ⟨F, hF⟩ : ∃ F, (openF eps S).2.2 = F := ⟨_, rfl⟩
  simp only [hT, hF] at hR
  simp only [hT, hF, hN] at CO
  rw [hT] at hos
  clear hT hF hN
  have hTs : T.data.toList.length ≤ 200 := by show T.size ≤ 200; omega
  have CT := Lib.hid (tok_any T.data.toList hTs)
  rw [bS_data] at CT
  generalize tokF T.data.toList = K at *
  obtain ⟨⟨⟨ki, ka, kb, ks⟩, kl⟩, kok⟩ := K
  have HR := Lib.hid hR
  clear hR hTs hos hsz hln
  by_cases c1 : E ≠ 0
  · have hn : (E != 0) = true := by simpa using c1
    have hR2 : R = ((tk0, []), E) := by rw [← HR.out, if_pos c1]
    have HR2 := Lib.hid hR2; clear hR2 HR c1
    go_enter Tryd.func10, Tryd.ntmps10
    go_wp2_with fail
    refine CR.out.mono ?_
    rintro en w1 ⟨rfl, hb1⟩
    have HXw1 := Lib.hid (HX0.out.next hb1); have HBw1 := Lib.hid (bt HB0.out hb1); clear hb1
    have hX1 := HXw1.out
    have z0 := hX1.froz 0; have z1 := hX1.froz 1; have z2 := hX1.froz 2; have z3 := hX1.froz 3; have z4 := hX1.froz 4
    have c0 := hX1.cell 0; have c1 := hX1.cell 1; have c2 := hX1.cell 2; have c3 := hX1.cell 3; have c4 := hX1.cell 4
    simp only [List.getElem?_cons_zero, List.getElem?_cons_succ] at c0 c1 c2 c3 c4
    have l0 := hX1.lt
    clear hX1
    go_wp2
    have P := Tb.put HXw1.out tk0 (.slice none 0 0)
    have Q := below5 HBw1.out (Nat.le_refl _) (.int .i64 0) (.int .i64 0) (.int .i64 0) (.int .i64 0) (.slice none 0 0)
    generalize ((((w1.setCell ⟨w.heap.size, 0, none⟩ (.int .i64 0)).setCell ⟨w.heap.size, 1, none⟩ (.int .i64 0)).setCell ⟨w.heap.size, 2, none⟩ (.int .i64 0)).setCell ⟨w.heap.size, 3, none⟩ (.int .i64 0)).setCell ⟨w.heap.size, 4, none⟩ (.slice none 0 0) = W2 at P Q ⊢
    have y0 := P.cell 0; have y1 := P.cell 1; have y2 := P.cell 2; have y3 := P.cell 3; have y4 := P.cell 4
    simp only [List.getElem?_cons_zero, List.getElem?_cons_succ] at y0 y1 y2 y3 y4
    refine bodyPost_ret (v := .tuple #[aT tk0 (.slice none 0 0), .int .i64 E]) (by simp [results, Tryd.results10, go_sem, y0, y1, y2, y3, y4]) rfl ?_
    rw [HR2.out]
    exact ⟨_, rfl, Rd.nil _, (fun b _ => off_nil b), Q⟩
  have hn : (E != 0) = false := by simpa using c1
  have hra := HR.out
  rw [if_neg c1] at hra
  have HRa := Lib.hid hra; clear hra HR
  have hE0 : E = 0 := by simpa using c1
  subst hE0
  clear c1 hn
  by_cases c2 : F ≠ 0
  · have hn : (F != 0) = true := by simpa using c2
    have hR2 : R = ((tk0, []), F) := by rw [← HRa.out, if_pos c2]
    have HR2 := Lib.hid hR2; clear hR2 HRa c2
    go_enter Tryd.func10, Tryd.ntmps10
    go_wp2_with fail
    refine CR.out.mono ?_
    rintro en w1 ⟨rfl, hb1⟩
    have HXw1 := Lib.hid (HX0.out.next hb1); have HBw1 := Lib.hid (bt HB0.out hb1); clear hb1
    go_wp2_with fail
    refine (CO.out _ HBw1.out).mono ?_
    rintro en w2 ⟨rfl, hb2⟩
    have HXw2 := Lib.hid (HXw1.out.next hb2); have HBw2 := Lib.hid (bt HBw1.out hb2); clear hb2 HXw1 HBw1
    have hX1 := HXw2.out
    have z0 := hX1.froz 0; have z1 := hX1.froz 1; have z2 := hX1.froz 2; have z3 := hX1.froz 3; have z4 := hX1.froz 4
    have c0 := hX1.cell 0; have c1 := hX1.cell 1; have c2 := hX1.cell 2; have c3 := hX1.cell 3; have c4 := hX1.cell 4
    simp only [List.getElem?_cons_zero, List.getElem?_cons_succ] at c0 c1 c2 c3 c4
    have l0 := hX1.lt
    clear hX1
    go_wp2
    have P := Tb.put HXw2.out tk0 (.slice none 0 0)
    have Q := below5 HBw2.out (Nat.le_refl _) (.int .i64 0) (.int .i64 0) (.int .i64 0) (.int .i64 0) (.slice none 0 0)
    generalize ((((w2.setCell ⟨w.heap.size, 0, none⟩ (.int .i64 0)).setCell ⟨w.heap.size, 1, none⟩ (.int .i64 0)).setCell ⟨w.heap.size, 2, none⟩ (.int .i64 0)).setCell ⟨w.heap.size, 3, none⟩ (.int .i64 0)).setCell ⟨w.heap.size, 4, none⟩ (.slice none 0 0) = W2 at P Q ⊢
    have y0 := P.cell 0; have y1 := P.cell 1; have y2 := P.cell 2; have y3 := P.cell 3; have y4 := P.cell 4
    simp only [List.getElem?_cons_zero, List.getElem?_cons_succ] at y0 y1 y2 y3 y4
    refine bodyPost_ret (v := .tuple #[aT tk0 (.slice none 0 0), .int .i64 F]) (by simp [results, Tryd.results10, go_sem, y0, y1, y2, y3, y4]) rfl ?_
    rw [HR2.out]
    exact ⟨_, rfl, Rd.nil _, (fun b _ => off_nil b), Q⟩
  have hrb := HRa.out
  rw [if_neg c2] at hrb
  have HRb := Lib.hid hrb; clear hrb HRa
  have hF0 : F = 0 := by simpa using c2
  subst hF0
  clear c2
  cases kok
  · have hR2 : R = ((tk0, []), 1) := by rw [← HRb.out]; rfl
    have HR2 := Lib.hid hR2; clear hR2 HRb
    go_enter Tryd.func10, Tryd.ntmps10
    go_wp2_with fail
    refine CR.out.mono ?_
    rintro en w1 ⟨rfl, hb1⟩
    have HXw1 := Lib.hid (HX0.out.next hb1); have HBw1 := Lib.hid (bt HB0.out hb1); clear hb1
    go_wp2_with fail
    refine (CO.out _ HBw1.out).mono ?_
    rintro en w2 ⟨rfl, hb2⟩
    have HXw2 := Lib.hid (HXw1.out.next hb2); have HBw2 := Lib.hid (bt HBw1.out hb2); clear hb2 HXw1 HBw1
    go_wp2_with fail
    refine (CT.out _).mono ?_
    rintro en w3 ⟨d, rfl, hrd3, hoff3, hb3⟩
    simp only at hrd3 ⊢
    have hrd4 := hrd3; obtain ⟨da, dc, rfl, _, _, _⟩ := hrd4
    have hD := Box.new w3 30 [.int .i64 ki, .int .i64 ka, .int .i64 kb, .int .i64 ks, .slice da kl.length dc]
    have hba := (br w3).alloc (Nat.le_refl _) (.cells #[.int .i64 ki, .int .i64 ka, .int .i64 kb, .int .i64 ks, .slice da kl.length dc] 30)
    have HXw3 := Lib.hid ((HXw2.out.next hb3).next hba); have HBw3 := Lib.hid (bt (bt HBw2.out hb3) hba)
    have HOF := Lib.hid (fun b (hb : b < w.heap.size) => hoff3 b (by have := HBw2.out.size; omega))
    have HO0 := Lib.hid (hoff3 w.heap.size (by have := HXw2.out.lt; exact this))
    have HRD := Lib.hid (hrd3.below hba)
    have e0 := hD.cell 0; have e1 := hD.cell 1; have e2 := hD.cell 2; have e3 := hD.cell 3; have e4 := hD.cell 4
    simp only [List.getElem?_cons_zero, List.getElem?_cons_succ] at e0 e1 e2 e3 e4
    have hne := hD.lt
    clear hD hba hb3 hoff3 hrd3
    have hX1 := HXw3.out
    have z0 := hX1.froz 0; have z1 := hX1.froz 1; have z2 := hX1.froz 2; have z3 := hX1.froz 3; have z4 := hX1.froz 4
    have c0 := hX1.cell 0; have c1 := hX1.cell 1; have c2 := hX1.cell 2; have c3 := hX1.cell 3; have c4 := hX1.cell 4
    simp only [List.getElem?_cons_zero, List.getElem?_cons_succ] at c0 c1 c2 c3 c4
    have l0 := hX1.lt; clear hX1
    go_wp2
    have P := Tb.put HXw3.out tk0 (.slice none 0 0)
    have Q := below5 HBw3.out (Nat.le_refl _) (.int .i64 0) (.int .i64 0) (.int .i64 0) (.int .i64 0) (.slice none 0 0)
    generalize (((((w3.alloc (.cells #[.int .i64 ki, .int .i64 ka, .int .i64 kb, .int .i64 ks, .slice da kl.length dc] 30)).setCell ⟨w.heap.size, 0, none⟩ (.int .i64 0)).setCell ⟨w.heap.size, 1, none⟩ (.int .i64 0)).setCell ⟨w.heap.size, 2, none⟩ (.int .i64 0)).setCell ⟨w.heap.size, 3, none⟩ (.int .i64 0)).setCell ⟨w.heap.size, 4, none⟩ (.slice none 0 0) = W2 at P Q ⊢
    have y0 := P.cell 0; have y1 := P.cell 1; have y2 := P.cell 2; have y3 := P.cell 3; have y4 := P.cell 4
    simp only [List.getElem?_cons_zero, List.getElem?_cons_succ] at y0 y1 y2 y3 y4
    refine bodyPost_ret (v := .tuple #[aT tk0 (.slice none 0 0), .int .i64 1]) (by simp [results, Tryd.results10, go_sem, y0, y1, y2, y3, y4]) rfl ?_
    rw [HR2.out]
    exact ⟨_, rfl, Rd.nil _, (fun b _ => off_nil b), Q⟩
  · have hR2 : R = ((⟨ki, ka, kb, ks⟩, kl), 0) := by rw [← HRb.out]; rfl
    have HR2 := Lib.hid hR2; clear hR2 HRb
    go_enter Tryd.func10, Tryd.ntmps10
    go_wp2_with fail
    refine CR.out.mono ?_
    rintro en w1 ⟨rfl, hb1⟩
    have HXw1 := Lib.hid (HX0.out.next hb1); have HBw1 := Lib.hid (bt HB0.out hb1); clear hb1
    go_wp2_with fail
    refine (CO.out _ HBw1.out).mono ?_
    rintro en w2 ⟨rfl, hb2⟩
    have HXw2 := Lib.hid (HXw1.out.next hb2); have HBw2 := Lib.hid (bt HBw1.out hb2); clear hb2 HXw1 HBw1
    go_wp2_with fail
    refine (CT.out _).mono ?_
    rintro en w3 ⟨d, rfl, hrd3, hoff3, hb3⟩
    simp only at hrd3 ⊢
    have hrd4 := hrd3; obtain ⟨da, dc, rfl, _, _, _⟩ := hrd4
    have hD := Box.new w3 30 [.int .i64 ki, .int .i64 ka, .int .i64 kb, .int .i64 ks, .slice da kl.length dc]
    have hba := (br w3).alloc (Nat.le_refl _) (.cells #[.int .i64 ki, .int .i64 ka, .int .i64 kb, .int .i64 ks, .slice da kl.length dc] 30)
    have HXw3 := Lib.hid ((HXw2.out.next hb3).next hba); have HBw3 := Lib.hid (bt (bt HBw2.out hb3) hba)
    have HOF := Lib.hid (fun b (hb : b < w.heap.size) => hoff3 b (by have := HBw2.out.size; omega))
    have HO0 := Lib.hid (hoff3 w.heap.size (by have := HXw2.out.lt; exact this))
    have HRD := Lib.hid (hrd3.below hba)
    have e0 := hD.cell 0; have e1 := hD.cell 1; have e2 := hD.cell 2; have e3 := hD.cell 3; have e4 := hD.cell 4
    simp only [List.getElem?_cons_zero, List.getElem?_cons_succ] at e0 e1 e2 e3 e4
    have hne := hD.lt
    clear hD hba hb3 hoff3 hrd3
    have hX1 := HXw3.out
    have z0 := hX1.froz 0; have z1 := hX1.froz 1; have z2 := hX1.froz 2; have z3 := hX1.froz 3; have z4 := hX1.froz 4
    have c0 := hX1.cell 0; have c1 := hX1.cell 1; have c2 := hX1.cell 2; have c3 := hX1.cell 3; have c4 := hX1.cell 4
    simp only [List.getElem?_cons_zero, List.getElem?_cons_succ] at c0 c1 c2 c3 c4
    have l0 := hX1.lt; clear hX1
    go_wp2
    have P := Tb.put HXw3.out ⟨ki, ka, kb, ks⟩ (.slice da kl.length dc)
    have Q := below5 HBw3.out (Nat.le_refl _) (.int .i64 ki) (.int .i64 ka) (.int .i64 kb) (.int .i64 ks) (.slice da kl.length dc)
    have R5 := rd_put5 (b := w.heap.size) HRD.out HO0.out (.int .i64 ki) (.int .i64 ka) (.int .i64 kb) (.int .i64 ks) (.slice da kl.length dc)
    generalize (((((w3.alloc (.cells #[.int .i64 ki, .int .i64 ka, .int .i64 kb, .int .i64 ks, .slice da kl.length dc] 30)).setCell ⟨w.heap.size, 0, none⟩ (.int .i64 ki)).setCell ⟨w.heap.size, 1, none⟩ (.int .i64 ka)).setCell ⟨w.heap.size, 2, none⟩ (.int .i64 kb)).setCell ⟨w.heap.size, 3, none⟩ (.int .i64 ks)).setCell ⟨w.heap.size, 4, none⟩ (.slice da kl.length dc) = W2 at P Q R5 ⊢
    have y0 := P.cell 0; have y1 := P.cell 1; have y2 := P.cell 2; have y3 := P.cell 3; have y4 := P.cell 4
    simp only [List.getElem?_cons_zero, List.getElem?_cons_succ] at y0 y1 y2 y3 y4
    refine bodyPost_ret (v := .tuple #[aT ⟨ki, ka, kb, ks⟩ (.slice da kl.length dc), .int .i64 0]) (by simp [results, Tryd.results10, go_sem, y0, y1, y2, y3, y4]) rfl ?_
    rw [HR2.out]
    exact ⟨_, rfl, R5, HOF.out, Q⟩
end Gt
end Go.Proofs.YtdfdjampodkpgaaDoor
