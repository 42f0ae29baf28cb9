/- The library's stable sort at ints: the whole, at 32 or fewer. -/
import Derived.Test.YtblbhkcnmkcdfaaStableM
set_option linter.unusedSimpArgs false
set_option linter.unusedVariables false
namespace Go.Proofs.Ytblbhkcnmkcdfaa
open Go.RowKit
namespace Stb
theorem symM_any (w0 : World) (blk N cap bc : Nat) (K : Int → Int → Int) (hc : Cmp w0 blk N bc K) (r : Int → Int → Prop) (ho : Ord r) (hN : N ≤ 1000) : ∀ (n : Nat) (d : Arr) (a m b : Nat) (w : World), b - a ≤ n → St w0 blk N d w → a < m → m < b → b ≤ N → (∀ i, i < N → 0 ≤ d i ∧ d i < N) → Crs K r d a m b → Srt r d a m → Srt r d m b → Calls Try.prog 32 #[.slice (some ⟨blk, 0, none⟩) N cap, .int .i64 a, .int .i64 m, .int .i64 b, fv bc] w (SortQ w0 blk N r d a b)
  | 0, d, a, m, b, w, hn, h, h1, h2, h3, hv, hcr, s1, s2 => by omega
  | n + 1, d, a, m, b, w, hn, h, h1, h2, h3, hv, hcr, s1, s2 => by
    by_cases c1 : m = a + 1
    · exact symM_left w0 blk N cap bc K hc r ho hN d a m b w h h1 h2 h3 hv hcr s1 s2 c1
    · by_cases c2 : b = m + 1
      · exact symM_right w0 blk N cap bc K hc r ho hN d a m b w h h1 h2 h3 hv hcr s1 s2 c2 c1
      · by_cases c3 : (a + b) / 2 < m
        · exact symM_up w0 blk N cap bc K hc r ho hN n (symM_any w0 blk N cap bc K hc r ho hN n) d a m b w h h1 h2 h3 hv hcr s1 s2 hn c1 c2 c3
        · exact symM_down w0 blk N cap bc K hc r ho hN n (symM_any w0 blk N cap bc K hc r ho hN n) d a m b w h h1 h2 h3 hv hcr s1 s2 hn c1 c2 (by omega)
set_option maxRecDepth 100000 in
set_option maxHeartbeats 4000000 in
theorem stable_any (w0 : World) (blk N cap bc : Nat) (K : Int → Int → Int) (hc : Cmp w0 blk N bc K) (r : Int → Int → Prop) (ho : Ord r) (d : Arr) (w : World) (h : St w0 blk N d w) (hN : N ≤ 32)
    (hv : ∀ i, i < N → 0 ≤ d i ∧ d i < N) (hf : ∀ i j, i < j → j < N → Fit K r (d j) (d i)) :
    Calls Try.prog 27 #[.slice (some ⟨blk, 0, none⟩) N cap, .int .i64 N, fv bc] w (SortQ w0 blk N r d 0 N) := by
  have HI := Lib.hid (fun (d' : Arr) (a b : Nat) (w' : World) h1 h2 h3 h4 h5 => ins_any w0 blk N cap bc K hc r ho d' a b w' h1 h2 h3 (by omega) h4 h5)
  have HM := Lib.hid (symM_any w0 blk N cap bc K hc r ho (by omega) N)
  have H0 := Lib.hid h; have HV := Lib.hid hv; have HF := Lib.hid hf
  clear hc ho h hv hf
  by_cases c : N < 20
  · have C1 := HI.out d 0 N w H0.out (Nat.zero_le _) (Nat.le_refl _) HV.out (fun i j _ h1 h2 => HF.out i j h1 h2)
    have HC1 := Lib.hid C1
    have c1 : ¬ (20 : Int) ≤ (N : Int) := by omega
    have c2 : ¬ (20 : Int) < (N : Int) := by omega
    clear C1
    go_enter Try.func27, Try.ntmps27
    go_wp2
    refine wp_loop_rounds 1 ?_
    rw [rounds_succ]
    go_wp2_with fail
    refine HC1.out.mono ?_
    rintro en w1 ⟨rfl, x⟩
    go_wp2
    refine wp_loop_rounds 1 ?_
    rw [rounds_succ]
    go_wp2
    go_end0
    exact ⟨rfl, x⟩
  · have C1 := HI.out d 0 20 w H0.out (Nat.zero_le _) (by omega) HV.out (fun i j _ h1 h2 => HF.out i j h1 (by omega))
    have HC1 := Lib.hid C1
    have c1 : (20 : Int) ≤ (N : Int) := by omega
    have c2 : ¬ (40 : Int) ≤ (N : Int) := by omega
    have c4 : ¬ (40 : Int) < (N : Int) := by omega
    clear C1
    go_enter Try.func27, Try.ntmps27
    go_wp2
    refine wp_loop_rounds 2 ?_
    rw [rounds_succ]
    go_wp2_with fail
    refine HC1.out.mono ?_
    rintro en w1 ⟨rfl, d1, x1, x2, x3⟩
    have hv1 : ∀ i, i < N → 0 ≤ d1 i ∧ d1 i < N := fun i hi => (x1.mono (Nat.le_refl _) (show 20 ≤ N by omega)).all (fun x => 0 ≤ x ∧ x < N) (fun j _ hj => HV.out j hj) i (Nat.zero_le _) hi
    have C2 := HI.out d1 20 N w1 x3 (by omega) (Nat.le_refl _) hv1 (fun i j h1 h2 h3 => by rw [x1.out i (by omega), x1.out j (by omega)]; exact HF.out i j h2 h3)
    have HC2 := Lib.hid C2
    have X1 := Lib.hid x1; have X2 := Lib.hid x2; have HV1 := Lib.hid hv1
    clear C2 x1 x2 x3 hv1
    go_wp2_with fail
    rw [rounds_succ]
    go_wp2_with fail
    refine HC2.out.mono ?_
    rintro en w2 ⟨rfl, d2, y1, y2, y3⟩
    by_cases c3 : N = 20
    · subst c3
      have HEND : RowKit.Hid (∃ d', Pm 0 20 d d' ∧ Srt r d' 0 20 ∧ St w0 blk 20 d' w2) := Lib.hid ⟨d2, X1.out.trans (y1.mono (by omega) (by omega)), X2.out.congr (fun k _ h2 => y1.out k (by omega)), y3⟩
      clear y1 y2 y3 HC1 HC2 HI HM
      go_wp2
      refine wp_loop_rounds 1 ?_
      rw [rounds_succ]
      go_wp2
      go_end0
      exact ⟨rfl, HEND.out⟩
    · have c5 : (20 : Int) < (N : Int) := by omega
      have hcr : Crs K r d2 0 20 N := fun i j h1 h2 h3 h4 => by
        have q0 : ∀ k, 20 ≤ k → k < N → Fit K r (d k) (d1 i) := fun k g1 g2 => X1.out.all (fun x => Fit K r (d k) x) (fun p _ c2 => HF.out p k (by omega) g2) i h1 h2
        have q1 : ∀ k, 20 ≤ k → k < N → Fit K r (d1 k) (d2 i) := fun k g1 g2 => by
          rw [y1.out i (by omega), X1.out.out k (by omega)]
          exact q0 k g1 g2
        exact y1.all (fun x => Fit K r x (d2 i)) q1 j h3 h4
      have hv2 : ∀ i, i < N → 0 ≤ d2 i ∧ d2 i < N := fun i hi => (y1.mono (Nat.zero_le _) (Nat.le_refl _)).all (fun x => 0 ≤ x ∧ x < N) (fun j _ hj => HV1.out j hj) i (Nat.zero_le _) hi
      have C3 := HM.out d2 0 20 N w2 (by omega) y3 (by omega) (by omega) (Nat.le_refl _) hv2 hcr (X2.out.congr (fun k _ h2 => y1.out k (by omega))) y2
      have HC3 := Lib.hid C3
      have Y1 := Lib.hid y1
      clear y1 y2 y3 hcr hv2 C3 HC1 HC2 HI HM
      go_wp2
      refine wp_loop_rounds 2 ?_
      rw [rounds_succ]
      go_wp2
      refine wp_loop_rounds 1 ?_
      rw [rounds_succ]
      go_wp2_with fail
      refine HC3.out.mono ?_
      rintro en w3 ⟨rfl, d3, z1, z2, z3⟩
      have HEND : RowKit.Hid (∃ d', Pm 0 N d d' ∧ Srt r d' 0 N ∧ St w0 blk N d' w3) := Lib.hid ⟨d3, ((X1.out.mono (Nat.le_refl _) (by omega)).trans (Y1.out.mono (by omega) (Nat.le_refl _))).trans z1, z2, z3⟩
      clear z1 z2 z3 HC3
      go_wp2
      rw [rounds_succ]
      go_wp2
      go_end0
      exact ⟨rfl, HEND.out⟩
set_option maxRecDepth 100000 in
theorem sortStable_any (w0 : World) (blk N cap bc : Nat) (K : Int → Int → Int) (hc : Cmp w0 blk N bc K) (r : Int → Int → Prop) (ho : Ord r) (d : Arr) (w : World) (h : St w0 blk N d w) (hN : N ≤ 32)
    (hv : ∀ i, i < N → 0 ≤ d i ∧ d i < N) (hf : ∀ i j, i < j → j < N → Fit K r (d j) (d i)) :
    Calls Try.prog 21 #[.slice (some ⟨blk, 0, none⟩) N cap, fv bc] w (SortQ w0 blk N r d 0 N) := by
  have C := Lib.hid (stable_any w0 blk N cap bc K hc r ho d w h hN hv hf)
  clear hc ho h hv hf
  go_enter Try.func21, Try.ntmps21
  go_wp2_with fail
  refine C.out.mono ?_
  rintro en w1 ⟨rfl, x⟩
  go_wp2
  go_end0
  exact ⟨rfl, x⟩
end Stb
end Go.Proofs.Ytblbhkcnmkcdfaa
