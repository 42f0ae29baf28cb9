/- Fares: the walks of the laws: the greatest fair fares; what more costs. -/
import Derived.Test.YtcppeligeodomaaFareLaws
set_option linter.unusedVariables false
namespace Go.Proofs.Ytcppeligeodomaa
open Go.RowKit
namespace Fa
set_option maxHeartbeats 4000000 in
theorem great_bad (v u : Value) (rs ts : List Rw) (w : World) (h : RdF w v rs) (h' : RdF w u ts) (hc : chkF (mat rs) ≠ 0 ∨ (chkF (mat rs) = 0 ∧ chkF (mat ts) ≠ 0)) : Calls Try.prog 6 #[v, u] w (BoolQ true w) := by
  have HL := Lib.hid h; have HL' := Lib.hid h'
  have CM := Lib.hid (fun w' h => mend_law v rs w' h)
  have CN := Lib.hid (fun w' h => mend_law u ts w' h)
  clear h h'
  generalize hec : chkF (mat rs) = ec at *
  generalize hed : chkF (mat ts) = ed at *
  have HEC := Lib.hid hec; have HED := Lib.hid hed
  clear hec hed
  rcases hc with c | ⟨c, d⟩
  · have hn : (ec != 0) = true := by simpa using c
    clear c
    go_enter Try.func6, Try.ntmps6
    go_wp2_with fail
    refine (CM.out _ HL.out).mono ?_
    rintro en w1 ⟨v1, q1, rfl, R1, M1, N1, b1⟩
    rw [HEC.out]
    clear R1 M1 N1
    go_wp2_with fail
    refine (CN.out _ (HL'.out.next b1)).mono ?_
    rintro en w2 ⟨v2, q2, rfl, R2, M2, N2, b2⟩
    have b2 := bt b1 b2
    rw [HED.out]
    clear R2 M2 N2
    go_wp2_with fail
    refine (begun_any _).mono ?_
    rintro en w3 ⟨rfl, b3⟩
    have b3 := bt b2 b3
    go_wp2
    go_ret
    exact ⟨rfl, b3⟩
  · subst c
    have hn : (ed != 0) = true := by simpa using d
    clear d
    go_enter Try.func6, Try.ntmps6
    go_wp2_with fail
    refine (CM.out _ HL.out).mono ?_
    rintro en w1 ⟨v1, q1, rfl, R1, M1, N1, b1⟩
    rw [HEC.out]
    clear R1 M1 N1
    go_wp2_with fail
    refine (CN.out _ (HL'.out.next b1)).mono ?_
    rintro en w2 ⟨v2, q2, rfl, R2, M2, N2, b2⟩
    have b2 := bt b1 b2
    rw [HED.out]
    clear R2 M2 N2
    go_wp2_with fail
    refine (begun_any _).mono ?_
    rintro en w3 ⟨rfl, b3⟩
    have b3 := bt b2 b3
    go_wp2
    go_ret
    exact ⟨rfl, b3⟩
set_option maxHeartbeats 4000000 in
theorem great_walk (v u : Value) (rs ts : List Rw) (w : World) (h : RdF w v rs) (h' : RdF w u ts) : Calls Try.prog 6 #[v, u] w (BoolQ true w) := by
  by_cases c : chkF (mat rs) = 0
  case neg => exact great_bad v u rs ts w h h' (.inl c)
  by_cases d : chkF (mat ts) = 0
  case neg => exact great_bad v u rs ts w h h' (.inr ⟨c, d⟩)
  have hok := (chkF_ok _).1 c
  have hok' := (chkF_ok _).1 d
  have HL := Lib.hid h; have HL' := Lib.hid h'
  have CM := Lib.hid (fun w' h => mend_is v rs w' h c _ rfl)
  have CN := Lib.hid (fun w' h => mend_is u ts w' h d _ rfl)
  obtain ⟨z, hz⟩ : ∃ z : Bool, z = true ↔ NoDear ts rs := by
    by_cases hn : NoDear ts rs
    · exact ⟨true, by simp [hn]⟩
    · exact ⟨false, by simp [hn]⟩
  have CD := Lib.hid (fun w' g g' => dear_any z u v ts rs w' g g' hz)
  cases z with
  | false =>
    clear hz hok hok' c d h h'
    go_enter Try.func6, Try.ntmps6
    go_wp2_with fail
    refine (CM.out _ HL.out).mono ?_
    rintro en w1 ⟨v1, q1, rfl, R1, M1, b1⟩
    go_wp2_with fail
    refine (CN.out _ (HL'.out.next b1)).mono ?_
    rintro en w2 ⟨v2, q2, rfl, R2, M2, b2⟩
    have b2 := bt b1 b2
    go_wp2_with fail
    refine (begun_any _).mono ?_
    rintro en w3 ⟨rfl, b3⟩
    have b3 := bt b2 b3
    go_wp2_with fail
    refine (CD.out _ (HL'.out.next b3) (HL.out.next b3)).mono ?_
    rintro en w4 ⟨rfl, b4⟩
    have b4 := bt b3 b4
    go_wp2
    go_ret
    exact ⟨rfl, b4⟩
  | true =>
    have hnd := hz.1 rfl
    have hlow : Lower (mat ts) (mat rs) := (noDear_lower (n := (mat rs).length) (by have := shape_ok hok'; rw [show (mat ts).length = (mat rs).length by rw [List.length_map, List.length_map]; exact hnd.1] at this; exact this) (shape_ok hok)).1 hnd
    have hlen := hlow.1
    have H1 := Lib.hid (fun q1 q2 (e1 : mat q1 = mended (mat rs)) (e2 : mat q2 = mended (mat ts)) => (noDear_lower (n := (mat rs).length) (xs := q2) (ys := q1) (by rw [e2, ← hlen]; exact (mended_sl hok').1) (by rw [e1]; exact (mended_sl hok).1)).2 (by rw [e1, e2]; exact lower_mended hok' hok hlow))
    have H2 := Lib.hid (fun q1 (e1 : mat q1 = mended (mat rs)) (hf : Fair (mat ts)) => (noDear_lower (n := (mat rs).length) (xs := ts) (ys := q1) (by rw [← hlen]; exact shape_ok hok') (by rw [e1]; exact (mended_sl hok).1)).2 (by rw [e1]; exact fair_lower hok' hok hlow hf))
    obtain ⟨r, hr⟩ : ∃ r : Bool, r = true ↔ Fair (mat ts) := by
      by_cases hf : Fair (mat ts)
      · exact ⟨true, by simp [hf]⟩
      · exact ⟨false, by simp [hf]⟩
    have CF := Lib.hid (fun w' h => fair_is r u ts w' h d hr)
    have HR := Lib.hid hr
    clear hz hok hok' c d h h' hnd hlow hlen hr
    cases r with
    | false =>
      go_enter Try.func6, Try.ntmps6
      go_wp2_with fail
      refine (CM.out _ HL.out).mono ?_
      rintro en w1 ⟨v1, q1, rfl, R1, M1, b1⟩
      go_wp2_with fail
      refine (CN.out _ (HL'.out.next b1)).mono ?_
      rintro en w2 ⟨v2, q2, rfl, R2, M2, b2⟩
      have C9 := Lib.hid (fun w' g g' => dear_any true v2 v1 q2 q1 w' g g' ⟨fun _ => H1.out q1 q2 M1 M2, fun _ => rfl⟩)
      have R1 := R1.next b2
      have b2 := bt b1 b2
      clear M1 M2
      go_wp2_with fail
      refine (begun_any _).mono ?_
      rintro en w3 ⟨rfl, b3⟩
      have R1 := R1.next b3; have R2 := R2.next b3
      have b3 := bt b2 b3
      go_wp2_with fail
      refine (CD.out _ (HL'.out.next b3) (HL.out.next b3)).mono ?_
      rintro en w4 ⟨rfl, b4⟩
      have R1 := R1.next b4; have R2 := R2.next b4
      have b4 := bt b3 b4
      go_wp2_with fail
      refine (CF.out _ (HL'.out.next b4)).mono ?_
      rintro en w5 ⟨rfl, b5⟩
      have R1 := R1.next b5; have R2 := R2.next b5
      have b5 := bt b4 b5
      go_wp2_with fail
      refine (C9.out _ R2 R1).mono ?_
      rintro en w6 ⟨rfl, b6⟩
      have b6 := bt b5 b6
      go_wp2
      go_ret
      exact ⟨rfl, b6⟩
    | true =>
      go_enter Try.func6, Try.ntmps6
      go_wp2_with fail
      refine (CM.out _ HL.out).mono ?_
      rintro en w1 ⟨v1, q1, rfl, R1, M1, b1⟩
      go_wp2_with fail
      refine (CN.out _ (HL'.out.next b1)).mono ?_
      rintro en w2 ⟨v2, q2, rfl, R2, M2, b2⟩
      have C9 := Lib.hid (fun w' g g' => dear_any true v2 v1 q2 q1 w' g g' ⟨fun _ => H1.out q1 q2 M1 M2, fun _ => rfl⟩)
      have C8 := Lib.hid (fun w' g g' => dear_any true u v1 ts q1 w' g g' ⟨fun _ => H2.out q1 M1 (HR.out.1 (by trivial)), fun _ => rfl⟩)
      have R1 := R1.next b2
      have b2 := bt b1 b2
      clear M1 M2
      go_wp2_with fail
      refine (begun_any _).mono ?_
      rintro en w3 ⟨rfl, b3⟩
      have R1 := R1.next b3; have R2 := R2.next b3
      have b3 := bt b2 b3
      go_wp2_with fail
      refine (CD.out _ (HL'.out.next b3) (HL.out.next b3)).mono ?_
      rintro en w4 ⟨rfl, b4⟩
      have R1 := R1.next b4; have R2 := R2.next b4
      have b4 := bt b3 b4
      go_wp2_with fail
      refine (CF.out _ (HL'.out.next b4)).mono ?_
      rintro en w5 ⟨rfl, b5⟩
      have R1 := R1.next b5; have R2 := R2.next b5
      have b5 := bt b4 b5
      go_wp2_with fail
      refine (C8.out _ (HL'.out.next b5) R1).mono ?_
      rintro en w6 ⟨rfl, b6⟩
      have R1 := R1.next b6; have R2 := R2.next b6
      have b6 := bt b5 b6
      go_wp2_with fail
      refine (C9.out _ R2 R1).mono ?_
      rintro en w7 ⟨rfl, b7⟩
      have b7 := bt b6 b7
      go_wp2
      go_ret
      exact ⟨rfl, b7⟩
/-- what is told of fares that are right -/
theorem fareOf_zero {m : List (List Int)} {x y pc way : Int} (h : (fareOf m x y pc way).2 = 0) : Ok m ∧ 0 ≤ x ∧ x ≤ y ∧ y < (m.length : Int) ∧ 0 ≤ pc ∧ pc ≤ 100 ∧ Pn.okW way ∧ (fareOf m x y pc way).1 = Pn.val (price m x.toNat y.toNat) (100 - pc) 100 way := by
  unfold fareOf at h ⊢
  by_cases c : chkF m ≠ 0
  · rw [if_pos c] at h; exact absurd h c
  rw [if_neg c] at h ⊢
  have c0 : chkF m = 0 := Classical.byContradiction c
  by_cases c2 : x < 0 ∨ y < x ∨ (m.length : Int) ≤ y ∨ pc < 0 ∨ 100 < pc
  · rw [if_pos c2] at h; simp at h
  rw [if_neg c2] at h ⊢
  obtain ⟨h1, h2, h3, h4, h5⟩ := Pn.part_ok h
  exact ⟨(chkF_ok _).1 c0, by omega, by omega, by omega, by omega, by omega, h2, h4⟩
theorem fareOf_bad {m : List (List Int)} {x y pc way : Int} (h : (fareOf m x y pc way).2 ≠ 0) : (fareOf m x y pc way).1 = 0 := by
  unfold fareOf at h ⊢
  by_cases c : chkF m ≠ 0
  · rw [if_pos c]
  rw [if_neg c] at h ⊢
  by_cases c2 : x < 0 ∨ y < x ∨ (m.length : Int) ≤ y ∨ pc < 0 ∨ 100 < pc
  · rw [if_pos c2]
  rw [if_neg c2] at h ⊢
  exact Pn.part_zero h
theorem fareOf_all {m : List (List Int)} {x y pc way : Int} (h : (fareOf m x y pc way).2 = 0) : fareOf m x y 100 way = (0, 0) := by
  obtain ⟨hok, h1, h2, h3, h4, h5, h6, h7⟩ := fareOf_zero h
  have hp := price_ok hok (a := x.toNat) (b := y.toNat) (by omega) (by omega)
  unfold fareOf
  rw [if_neg (by rw [(chkF_ok _).2 hok]; simp), if_neg (by omega)]
  rw [Pn.part_eq (by unfold Pn.isA; omega) h6 (by unfold Pn.okN; omega)]
  show Pn.told (Pn.val _ 0 100 way) = _
  rw [val_zero _ _ _ hp.1 (by omega)]
  rfl
theorem fareOf_rises {m : List (List Int)} {a b x y p q way : Int} (hf : Fair m) (h : (fareOf m a b p way).2 = 0) (h' : (fareOf m x y q way).2 = 0) (hx : x ≤ a) (hy : b ≤ y) (hq : q ≤ p) : (fareOf m a b p way).1 ≤ (fareOf m x y q way).1 := by
  obtain ⟨hok, h1, h2, h3, h4, h5, h6, h7⟩ := fareOf_zero h
  obtain ⟨_, g1, g2, g3, g4, g5, g6, g7⟩ := fareOf_zero h'
  rw [h7, g7]
  have hp := price_ok hok (a := a.toNat) (b := b.toNat) (by omega) (by omega)
  have hw := hf.wide a.toNat b.toNat x.toNat y.toNat (by omega) (by omega) (by omega) (by omega)
  unfold Pn.val
  rw [if_neg (by omega), if_neg (by omega)]
  exact mag_both _ _ _ _ _ _ hp.1 hw (by omega) (by omega) (by omega)
set_option maxHeartbeats 4000000 in
theorem rises_walk (v : Value) (rs : List Rw) (a b x y p q way : Int) (w : World) (h : RdF w v rs) : Calls Try.prog 7 #[v, .int .i64 a, .int .i64 b, .int .i64 x, .int .i64 y, .int .i64 p, .int .i64 q, .int .i64 way] w (BoolQ true w) := by
  have HL := Lib.hid h
  have C1 := Lib.hid (fun w' h => of_is v rs a b p way w' h _ rfl)
  have C2 := Lib.hid (fun w' h => of_is v rs x y q way w' h _ rfl)
  by_cases c1 : (fareOf (mat rs) a b p way).2 = 0
  · by_cases c2 : (fareOf (mat rs) x y q way).2 = 0
    · have c0 := (chkF_ok _).2 (fareOf_zero c1).1
      have C3 := Lib.hid (fun w' h => of_is v rs a b 100 way w' h _ (fareOf_all c1))
      obtain ⟨r, hr⟩ : ∃ r : Bool, r = true ↔ Fair (mat rs) := by
        by_cases hf : Fair (mat rs)
        · exact ⟨true, by simp [hf]⟩
        · exact ⟨false, by simp [hf]⟩
      have CF := Lib.hid (fun w' h => fair_is r v rs w' h c0 hr)
      have HRS : RowKit.Hid (r = true → x ≤ a → b ≤ y → q ≤ p → (fareOf (mat rs) a b p way).1 ≤ (fareOf (mat rs) x y q way).1) := Lib.hid (fun hr2 g1 g2 g3 => fareOf_rises (hr.1 hr2) c1 c2 g1 g2 g3)
      clear hr c0 h
      generalize fareOf (mat rs) a b p way = f1 at *
      generalize fareOf (mat rs) x y q way = f2 at *
      obtain ⟨s, e⟩ := f1
      obtain ⟨t, g⟩ := f2
      simp only at c1 c2
      subst c1 c2
      have hend : r = false ∨ (r = true ∧ a < x) ∨ (r = true ∧ ¬ a < x ∧ y < b) ∨ (r = true ∧ ¬ a < x ∧ ¬ y < b ∧ p < q) ∨ (r = true ∧ ¬ a < x ∧ ¬ y < b ∧ ¬ p < q ∧ s ≤ t) := by
        cases hrr : r with
        | false => exact .inl rfl
        | true =>
          by_cases k1 : a < x
          · exact .inr (.inl ⟨rfl, k1⟩)
          by_cases k2 : y < b
          · exact .inr (.inr (.inl ⟨rfl, k1, k2⟩))
          by_cases k3 : p < q
          · exact .inr (.inr (.inr (.inl ⟨rfl, k1, k2, k3⟩)))
          exact .inr (.inr (.inr (.inr ⟨rfl, k1, k2, k3, HRS.out hrr (by omega) (by omega) (by omega)⟩)))
      clear HRS
      go_enter Try.func7, Try.ntmps7
      go_wp2_with fail
      refine (C1.out _ HL.out).mono ?_
      rintro en w1 ⟨rfl, b1⟩
      go_wp2_with fail
      refine (C2.out _ (HL.out.next b1)).mono ?_
      rintro en w2 ⟨rfl, b2⟩
      have b2 := bt b1 b2
      go_wp2_with fail
      refine (begun_any _).mono ?_
      rintro en w3 ⟨rfl, b3⟩
      have b3 := bt b2 b3
      go_wp2_with fail
      refine (CF.out _ (HL.out.next b3)).mono ?_
      rintro en w4 ⟨rfl, b4⟩
      have b4 := bt b3 b4
      go_wp2_with fail
      refine (C3.out _ (HL.out.next b4)).mono ?_
      rintro en w5 ⟨rfl, b5⟩
      have b5 := bt b4 b5
      rcases hend with rfl | ⟨rfl, k1⟩ | ⟨rfl, k1, k2⟩ | ⟨rfl, k1, k2, k3⟩ | ⟨rfl, k1, k2, k3, k4⟩
      · go_wp2
        go_ret
        exact ⟨rfl, b5⟩
      · go_wp2
        go_ret
        exact ⟨rfl, b5⟩
      · go_wp2
        go_ret
        exact ⟨rfl, b5⟩
      · go_wp2
        go_ret
        exact ⟨rfl, b5⟩
      · go_wp2
        go_ret
        exact ⟨rfl, b5⟩
    · have z2 := fareOf_bad c2
      have hn : ((fareOf (mat rs) x y q way).2 != 0) = true := by simpa using c2
      have hq : ((fareOf (mat rs) x y q way).2 == 0) = false := beq_eq_false_iff_ne.2 c2
      clear c2 h
      generalize fareOf (mat rs) a b p way = f1 at *
      generalize fareOf (mat rs) x y q way = f2 at *
      obtain ⟨s, e⟩ := f1
      obtain ⟨t, g⟩ := f2
      simp only at c1 z2 hn hq
      subst c1 z2
      go_enter Try.func7, Try.ntmps7
      go_wp2_with fail
      refine (C1.out _ HL.out).mono ?_
      rintro en w1 ⟨rfl, b1⟩
      go_wp2_with fail
      refine (C2.out _ (HL.out.next b1)).mono ?_
      rintro en w2 ⟨rfl, b2⟩
      have b2 := bt b1 b2
      go_wp2_with fail
      refine (begun_any _).mono ?_
      rintro en w3 ⟨rfl, b3⟩
      have b3 := bt b2 b3
      go_wp2
      go_ret
      exact ⟨rfl, b3⟩
  · have z1 := fareOf_bad c1
    have hn : ((fareOf (mat rs) a b p way).2 != 0) = true := by simpa using c1
    have hq : ((fareOf (mat rs) a b p way).2 == 0) = false := beq_eq_false_iff_ne.2 c1
    have hcase : (fareOf (mat rs) x y q way).2 = 0 ∨ ((fareOf (mat rs) x y q way).2 == 0) = false ∧ (fareOf (mat rs) x y q way).1 = 0 := by
      by_cases c2 : (fareOf (mat rs) x y q way).2 = 0
      · exact .inl c2
      · exact .inr ⟨beq_eq_false_iff_ne.2 c2, fareOf_bad c2⟩
    clear c1 h
    generalize fareOf (mat rs) a b p way = f1 at *
    generalize fareOf (mat rs) x y q way = f2 at *
    obtain ⟨s, e⟩ := f1
    obtain ⟨t, g⟩ := f2
    simp only at z1 hn hq hcase
    subst z1
    go_enter Try.func7, Try.ntmps7
    go_wp2_with fail
    refine (C1.out _ HL.out).mono ?_
    rintro en w1 ⟨rfl, b1⟩
    go_wp2_with fail
    refine (C2.out _ (HL.out.next b1)).mono ?_
    rintro en w2 ⟨rfl, b2⟩
    have b2 := bt b1 b2
    go_wp2_with fail
    refine (begun_any _).mono ?_
    rintro en w3 ⟨rfl, b3⟩
    have b3 := bt b2 b3
    rcases hcase with rfl | ⟨k1, rfl⟩
    · go_wp2
      go_ret
      exact ⟨rfl, b3⟩
    · go_wp2
      go_ret
      exact ⟨rfl, b3⟩
end Fa
end Go.Proofs.Ytcppeligeodomaa
