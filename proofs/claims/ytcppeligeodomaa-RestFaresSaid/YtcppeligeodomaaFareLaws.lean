/- Fares: the walks of the laws. -/
import Derived.Test.YtcppeligeodomaaFareBegun
set_option linter.unusedVariables false
namespace Go.Proofs.Ytcppeligeodomaa
open Go.RowKit
namespace Fa
theorem RdF.shape {w : World} {v : Value} {rs : List Rw} (h : RdF w v rs) : ∃ a c, v = .slice a rs.length c := by
  obtain ⟨a, c, e, _⟩ := h.rd
  exact ⟨a, c, e⟩
theorem noDear_lower {n : Nat} {xs ys : List Rw} (hx : Shape n (mat xs)) (hy : Shape n (mat ys)) : NoDear xs ys ↔ Lower (mat xs) (mat ys) := by
  have lx : xs.length = n := by have := hx.len; rw [List.length_map] at this; exact this
  have ly : ys.length = n := by have := hy.len; rw [List.length_map] at this; exact this
  have rx : ∀ (i : Nat) (hi : i < xs.length), xs[i].ls.length = n - i := fun i hi => by
    have := hx.row i (by omega)
    rw [List.getD_eq_getElem?_getD, List.getElem?_map, List.getElem?_eq_getElem hi] at this; exact this
  have ry : ∀ (i : Nat) (hi : i < ys.length), ys[i].ls.length = n - i := fun i hi => by
    have := hy.row i (by omega)
    rw [List.getD_eq_getElem?_getD, List.getElem?_map, List.getElem?_eq_getElem hi] at this; exact this
  have px : ∀ (i k : Nat) (hi : i < xs.length) (hk : k < xs[i].ls.length), price (mat xs) i (i + k) = xs[i].ls[k] := fun i k hi hk => by
    unfold price
    rw [show i + k - i = k by omega]
    simp [List.getD_eq_getElem?_getD, hi, hk]
  have py : ∀ (i k : Nat) (hi : i < ys.length) (hk : k < ys[i].ls.length), price (mat ys) i (i + k) = ys[i].ls[k] := fun i k hi hk => by
    unfold price
    rw [show i + k - i = k by omega]
    simp [List.getD_eq_getElem?_getD, hi, hk]
  constructor
  · rintro ⟨h1, h2⟩
    refine ⟨by rw [hx.len, hy.len], fun a b hab hb => ?_⟩
    rw [hy.len] at hb
    have e1 := rx a (by omega); have e2 := ry a (by omega)
    have := h2 a (by omega) (by omega) (b - a) (by omega) (by omega)
    rw [← px a (b - a) (by omega) (by omega), ← py a (b - a) (by omega) (by omega), show a + (b - a) = b by omega] at this
    exact this
  · rintro ⟨h1, h2⟩
    refine ⟨by omega, fun i hi hi' k hk hk' => ?_⟩
    have e2 := ry i hi'
    have := h2 i (i + k) (by omega) (by rw [hy.len]; omega)
    rw [px i k hi hk, py i k hi' hk'] at this
    exact this
set_option maxHeartbeats 4000000 in
theorem tells_walk (v : Value) (rs : List Rw) (x y pc way : Int) (w : World) (h : RdF w v rs) : Calls Try.prog 3 #[v, .int .i64 x, .int .i64 y, .int .i64 pc, .int .i64 way] w (BoolQ true w) := by
  have HL := Lib.hid h
  have CO := Lib.hid (fun w' h => of_is v rs x y pc way w' h _ rfl)
  have CR := Lib.hid (fun w' h => ofR_any v rs x y pc way w' h)
  have CK := Lib.hid (fun w' h => checkR_any v rs w' h)
  have CC := Lib.hid (fun w' h => check_any v rs w' h)
  by_cases c : chkF (mat rs) = 0
  · obtain ⟨r, hr⟩ : ∃ r : Bool, r = true ↔ Fair (mat rs) := by
      by_cases hf : Fair (mat rs)
      · exact ⟨true, by simp [hf]⟩
      · exact ⟨false, by simp [hf]⟩
    have CF := Lib.hid (fun w' h => fair_is r v rs w' h c hr)
    have CG := Lib.hid (fun w' h => fairR_any r v rs w' h ((chkF_ok _).1 c) hr)
    rw [c] at CK CC
    clear c hr h
    generalize fareOf (mat rs) x y pc way = fo at *
    obtain ⟨f1, f2⟩ := fo
    go_enter Try.func3, Try.ntmps3
    go_wp2_with fail
    refine (CF.out _ HL.out).mono ?_
    rintro en w1 ⟨rfl, b1⟩
    go_wp2_with fail
    refine (CO.out _ (HL.out.next b1)).mono ?_
    rintro en w2 ⟨rfl, b2⟩
    have b2 := bt b1 b2
    go_wp2_with fail
    refine (CK.out _ (HL.out.next b2)).mono ?_
    rintro en w3 ⟨rfl, b3⟩
    have b3 := bt b2 b3
    go_wp2_with fail
    refine (CR.out _ (HL.out.next b3)).mono ?_
    rintro en w4 ⟨rfl, b4⟩
    have b4 := bt b3 b4
    go_wp2_with fail
    refine (begun_any _).mono ?_
    rintro en w5 ⟨rfl, b5⟩
    have b5 := bt b4 b5
    go_wp2_with fail
    refine (CC.out _ (HL.out.next b5)).mono ?_
    rintro en w6 ⟨rfl, b6⟩
    have b6 := bt b5 b6
    go_wp2_with fail
    refine (CG.out _ (HL.out.next b6)).mono ?_
    rintro en w7 ⟨rfl, b7⟩
    have b7 := bt b6 b7
    go_wp2
    go_ret
    exact ⟨rfl, b7⟩
  · have CF := Lib.hid (fun w' h => fairC_any false v rs w' h ⟨fun g => by simp at g, fun g => absurd g.1 c⟩)
    have hn : (chkF (mat rs) == 0) = false := beq_eq_false_iff_ne.2 c
    clear c h
    generalize chkF (mat rs) = ec at *
    generalize fareOf (mat rs) x y pc way = fo at *
    obtain ⟨f1, f2⟩ := fo
    go_enter Try.func3, Try.ntmps3
    go_wp2_with fail
    refine (CF.out _ HL.out).mono ?_
    rintro en w1 ⟨rfl, b1⟩
    go_wp2_with fail
    refine (CO.out _ (HL.out.next b1)).mono ?_
    rintro en w2 ⟨rfl, b2⟩
    have b2 := bt b1 b2
    go_wp2_with fail
    refine (CK.out _ (HL.out.next b2)).mono ?_
    rintro en w3 ⟨rfl, b3⟩
    have b3 := bt b2 b3
    go_wp2_with fail
    refine (CR.out _ (HL.out.next b3)).mono ?_
    rintro en w4 ⟨rfl, b4⟩
    have b4 := bt b3 b4
    go_wp2_with fail
    refine (begun_any _).mono ?_
    rintro en w5 ⟨rfl, b5⟩
    have b5 := bt b4 b5
    go_wp2_with fail
    refine (CC.out _ (HL.out.next b5)).mono ?_
    rintro en w6 ⟨rfl, b6⟩
    have b6 := bt b5 b6
    go_wp2
    go_ret
    exact ⟨rfl, b6⟩
set_option maxHeartbeats 4000000 in
theorem mtells_walk (v : Value) (rs : List Rw) (w : World) (h : RdF w v rs) : Calls Try.prog 4 #[v] w (BoolQ true w) := by
  have HL := Lib.hid h
  have CM := Lib.hid (fun w' h => mend_law v rs w' h)
  have CR := Lib.hid (fun w' h => mendR_law v rs w' h)
  clear h
  generalize hec : chkF (mat rs) = ec at *
  have HEC := Lib.hid hec
  clear hec
  go_enter Try.func4, Try.ntmps4
  go_wp2_with fail
  refine (CM.out _ HL.out).mono ?_
  rintro en w1 ⟨v1, q1, rfl, R1, M1, N1, b1⟩
  rw [HEC.out] at M1 N1 ⊢
  go_wp2_with fail
  refine (CR.out _ (HL.out.next b1)).mono ?_
  rintro en w2 ⟨v2, q2, rfl, R2, M2, N2, b2⟩
  rw [HEC.out] at M2 N2 ⊢
  have R1 := R1.next b2
  have b2 := bt b1 b2
  have hs : decide (mat q1 = mat q2) = true := by
    by_cases c : ec = 0
    · rw [M1 c, M2 c]; exact decide_eq_true rfl
    · rw [N1 c, N2 c]; exact decide_eq_true rfl
  clear M1 M2 N1 N2
  go_wp2_with fail
  refine (begun_any _).mono ?_
  rintro en w3 ⟨rfl, b3⟩
  have R1 := R1.next b3; have R2 := R2.next b3
  have b3 := bt b2 b3
  go_wp2_with fail
  refine (same_is true _ _ q1 q2 _ R1 R2 hs).mono ?_
  rintro en w4 ⟨rfl, b4⟩
  have b4 := bt b3 b4
  go_wp2
  go_ret
  exact ⟨rfl, b4⟩
set_option maxHeartbeats 4000000 in
theorem mfair_walk (v : Value) (rs : List Rw) (w : World) (h : RdF w v rs) : Calls Try.prog 5 #[v] w (BoolQ true w) := by
  have HL := Lib.hid h
  by_cases c : chkF (mat rs) = 0
  · have hok := (chkF_ok _).1 c
    have CM := Lib.hid (fun w' h => mend_is v rs w' h c _ rfl)
    have HOK := Lib.hid hok
    have HC := Lib.hid c
    clear h c hok
    go_enter Try.func5, Try.ntmps5
    go_wp2_with fail
    refine (CM.out _ HL.out).mono ?_
    rintro en w1 ⟨v1, q1, rfl, R1, M1, b1⟩
    have hok1 := mended_ok HOK.out
    have hf1 := mended_fair HOK.out
    have hm1 := mended_twice HOK.out
    have hfi := fair_iff HOK.out
    have hlo := (noDear_lower (n := (mat rs).length) (xs := q1) (ys := rs) (by rw [M1]; exact (mended_sl HOK.out).1) (shape_ok HOK.out)).2 (by rw [M1]; exact mended_lower HOK.out)
    rw [← M1] at hok1 hf1 hm1 hfi
    have c1 := (chkF_ok _).2 hok1
    go_wp2_with fail
    refine (begun_any _).mono ?_
    rintro en w2 ⟨rfl, b2⟩
    have R1 := R1.next b2
    have b2 := bt b1 b2
    go_wp2_with fail
    refine (fair_is true _ q1 _ R1 c1 ⟨fun _ => hf1, fun _ => rfl⟩).mono ?_
    rintro en w3 ⟨rfl, b3⟩
    have R1 := R1.next b3
    have b3 := bt b2 b3
    go_wp2_with fail
    refine (mend_is _ q1 _ R1 c1 _ hm1).mono ?_
    rintro en w4 ⟨v2, q2, rfl, R2, M2, b4⟩
    have R1 := R1.next b4
    have b4 := bt b3 b4
    go_wp2_with fail
    refine (fair_is (decide (mat q1 = mat rs)) _ rs _ (HL.out.next b4) HC.out (by rw [hfi, decide_eq_true_iff])).mono ?_
    rintro en w5 ⟨rfl, b5⟩
    have R1 := R1.next b5; have R2 := R2.next b5
    have b5 := bt b4 b5
    have C6 := Lib.hid (fun w' h h' => same_is true v2 v1 q2 q1 w' h h' (by rw [M2]; exact decide_eq_true rfl))
    have C7 := Lib.hid (fun w' h h' => same_is _ v1 v q1 rs w' h h' rfl)
    have C8 := Lib.hid (fun w' h h' => dear_any true v1 v q1 rs w' h h' ⟨fun _ => hlo, fun _ => rfl⟩)
    have R1 := Lib.hid R1; have R2 := Lib.hid R2; have B5 := Lib.hid b5
    clear hlo hfi hok1 hf1 hm1 M1 M2 c1 b5
    generalize decide (mat q1 = mat rs) = z at *
    go_wp2_with fail
    refine (C6.out _ R2.out R1.out).mono ?_
    rintro en w6 ⟨rfl, b6⟩
    have R1 := R1.out.next b6
    have b6 := bt B5.out b6
    go_wp2_with fail
    refine (C7.out _ R1 (HL.out.next b6)).mono ?_
    rintro en w7 ⟨rfl, b7⟩
    have R1 := R1.next b7
    have b7 := bt b6 b7
    go_wp2_with fail
    refine (C8.out _ R1 (HL.out.next b7)).mono ?_
    rintro en w8 ⟨rfl, b8⟩
    have b8 := bt b7 b8
    go_wp2
    go_ret
    exact ⟨rfl, b8⟩
  · have CM := Lib.hid (fun w' h => mend_law v rs w' h)
    have hn : (chkF (mat rs) != 0) = true := by simpa using c
    have HC := Lib.hid c
    clear h c
    generalize hec : chkF (mat rs) = ec at *
    have HEC := Lib.hid hec
    clear hec
    go_enter Try.func5, Try.ntmps5
    go_wp2_with fail
    refine (CM.out _ HL.out).mono ?_
    rintro en w1 ⟨v1, q1, rfl, R1, M1, N1, b1⟩
    rw [HEC.out] at M1 N1 ⊢
    have hq := N1 HC.out
    subst hq
    obtain ⟨a1, c1, rfl⟩ := R1.shape
    clear R1 M1 N1
    go_wp2_with fail
    refine (begun_any _).mono ?_
    rintro en w2 ⟨rfl, b2⟩
    have b2 := bt b1 b2
    go_wp2
    go_ret
    exact ⟨rfl, b2⟩
end Fa
end Go.Proofs.Ytcppeligeodomaa
