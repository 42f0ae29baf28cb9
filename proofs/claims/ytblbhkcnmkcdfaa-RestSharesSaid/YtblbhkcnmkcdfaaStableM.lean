/- The library's stable sort at ints: the merge of two runs. (gen_stable.py) -/
import Derived.Test.YtblbhkcnmkcdfaaStableR
set_option linter.unusedSimpArgs false
set_option linter.unusedVariables false
namespace Go.Proofs.Ytblbhkcnmkcdfaa
open Go.RowKit
namespace Stb
theorem Crs.congr {K : Int → Int → Int} {r : Int → Int → Prop} {d e : Arr} {a m b : Nat} (h : Crs K r d a m b) (he : ∀ k, a ≤ k → k < b → e k = d k) : Crs K r e a m b := fun i j h1 h2 h3 h4 => by
  rw [he i h1 (by omega), he j (by omega) h4]; exact h i j h1 h2 h3 h4
theorem fin_ {r : Int → Int → Prop} {d f f2 f3 : Arr} {a M b : Nat} (hf : Pm a b d f) (hd : ∀ i j, a ≤ i → i < M → M ≤ j → j < b → r (f i) (f j)) (hM : a ≤ M ∧ M ≤ b) (h1 : Pm a M f f2) (s1 : Srt r f2 a M) (h2 : Pm M b f2 f3) (s2 : Srt r f3 M b) : Pm a b d f3 ∧ Srt r f3 a b :=
  ⟨(hf.trans (h1.mono (Nat.le_refl _) hM.2)).trans (h2.mono hM.1 (Nat.le_refl _)), halves hd h1 s1 h2 s2⟩
set_option maxRecDepth 100000 in
set_option maxHeartbeats 8000000 in
theorem symM_left (w0 : World) (blk N cap bc : Nat) (K : Int → Int → Int) (hc : Cmp w0 blk N bc K) (r : Int → Int → Prop) (ho : Ord r) (hN : N ≤ 1000) (d : Arr) (a m b : Nat) (w : World) (h : St w0 blk N d w) (ham : a < m) (hmb : m < b) (hb : b ≤ N)
    (hv : ∀ i, i < N → 0 ≤ d i ∧ d i < N) (hcr : Crs K r d a m b) (h1 : Srt r d a m) (h2 : Srt r d m b) (hone : m = a + 1) :
    Calls Try.prog 32 #[.slice (some ⟨blk, 0, none⟩) N cap, .int .i64 a, .int .i64 m, .int .i64 b, fv bc] w (SortQ w0 blk N r d a b) := by
  have H0 := Lib.hid h; have HC := Lib.hid hc; have HCR := Lib.hid hcr; have HO := Lib.hid ho; have HV := Lib.hid hv; have HS1 := Lib.hid h1; have HS2 := Lib.hid h2
  have e1 : (((m : Int) - (a : Int)) == 1) = true := by simp; omega
  have HONE := Lib.hid hone
  clear h hc hcr ho hv h1 h2 hone
  go_enter Try.func32, Try.ntmps32
  go_wp2
  go_loopw [10, 11] (fun s5 s6 wr => ∃ i j : Nat, m ≤ i ∧ i ≤ j ∧ j ≤ b ∧ s5 = .int .i64 i ∧ s6 = .int .i64 j ∧ St w0 blk N d wr ∧ RowKit.Hid ((∀ k, m ≤ k → k < i → r (d k) (d a)) ∧ (∀ k, j ≤ k → k < b → r (d a) (d k)))) (fun s5 s6 _ => (intOf s6 - intOf s5).toNat)
  case atStart => exact ⟨m, b, Nat.le_refl _, by omega, Nat.le_refl _, rfl, rfl, H0.out, Lib.hid ⟨fun k _ _ => by omega, fun k _ _ => by omega⟩⟩
  case round =>
    obtain ⟨i, j, g1, g2, g3, rfl, rfl, hs, I⟩ := hrel
    by_cases hlt : i < j
    · obtain ⟨t, ht⟩ : ∃ t, (i + j) / 2 = t := ⟨_, rfl⟩
      have b0 : ((i : Int) + (j : Int)) / 2 = (t : Int) := by omega
      have b1 : i ≤ t := by omega
      have b2 : t < j := by omega
      have b3 : (0 : Int) ≤ (t : Int) := by omega
      have b4 : (t : Int) < (N : Int) := by omega
      have b5 : (0 : Int) ≤ (a : Int) := by omega
      have b6 : (a : Int) < (N : Int) := by omega
      have HT := Lib.hid ht
      clear ht
      have HFIT := Lib.hid (HCR.out a t (Nat.le_refl _) ham (by omega) (by omega))
      unfold Fit at HFIT
      have HUP : RowKit.Hid (r (d t) (d a) → ((∀ k, m ≤ k → k < t + 1 → r (d k) (d a)) ∧ (∀ k, j ≤ k → k < b → r (d a) (d k)))) := Lib.hid (fun hr => ⟨fun k c1 c2 => by
        by_cases c : k = t
        · subst c; exact hr
        · exact HO.out.tr (HS2.out k t c1 (by omega) (by omega)) hr, I.out.2⟩)
      have HDN : RowKit.Hid (r (d a) (d t) → ((∀ k, m ≤ k → k < i → r (d k) (d a)) ∧ (∀ k, t ≤ k → k < b → r (d a) (d k)))) := Lib.hid (fun hr => ⟨I.out.1, fun k c1 c2 => by
        by_cases c : k = t
        · subst c; exact hr
        · exact HO.out.tr hr (HS2.out t k (by omega) (by omega) c2)⟩)
      have q0 := hs.at_.cell (t) (by omega)
      have q1 := hs.at_.cell (a) (by omega)
      have CQ : RowKit.Hid (∀ n, Calls Try.prog 22 #[.int .i64 (d (t)), .int .i64 (d (a)), .pointer (some ⟨bc, 0, none⟩)] (wr.drewN n) fun e w' => e = .returned (.int .i64 (K (d (t)) (d (a)))) ∧ ∃ m, w' = (wr.drewN n).drewN m) :=
        Lib.hid (fun n => HC.out.run _ _ _ (HV.out _ (by omega)).1 (HV.out _ (by omega)).2 (HV.out _ (by omega)).1 (HV.out _ (by omega)).2 (hs.kept.drewN n))
      have HS := Lib.hid hs
      clear hs
      obtain ⟨x, hx⟩ : ∃ x, d (t) = x := ⟨_, rfl⟩
      obtain ⟨y, hy⟩ : ∃ y, d (a) = y := ⟨_, rfl⟩
      rw [hx] at q0; rw [hy] at q1; rw [hx, hy] at CQ HFIT
      have HX := Lib.hid hx; have HY := Lib.hid hy
      clear hx hy
      obtain ⟨z, hz⟩ : ∃ z, K x y = z := ⟨_, rfl⟩
      rw [hz] at CQ HFIT
      clear hz
      by_cases hzl : z < 0
      · go_wp2_with fail
        go_quiet ((go_at_call 22; first | exact qf (CQ.out _) | exact qe (CQ.out _)))
        have HU : RowKit.Hid _ := Lib.hid (HUP.out (by rw [HX.out, HY.out]; exact HFIT.out.1 hzl))
        have HS3 := Lib.hid (HS.out.drewN nq)
        clear q0 q1 CQ HUP HDN HFIT HX HY
        go_wp2
        go_roundw
        case rel => exact ⟨t + 1, j, by omega, by omega, g3, by go_num, rfl, HS3.out, HU⟩
        case measure => simp [intOf]; omega
      · go_wp2_with fail
        go_quiet ((go_at_call 22; first | exact qf (CQ.out _) | exact qe (CQ.out _)))
        have HU : RowKit.Hid _ := Lib.hid (HDN.out (by rw [HX.out, HY.out]; exact HFIT.out.2 (by omega)))
        have HS3 := Lib.hid (HS.out.drewN nq)
        clear q0 q1 CQ HUP HDN HFIT HX HY
        go_wp2
        go_roundw
        case rel => exact ⟨i, t, g1, by omega, by omega, rfl, rfl, HS3.out, HU⟩
        case measure => simp [intOf]; omega
    · obtain rfl : i = j := by omega
      have HS := Lib.hid hs
      clear hs
      obtain ⟨wx, rfl⟩ : ∃ wx, wx = wr := ⟨_, rfl⟩
      go_wp2
      go_loopw [13] (fun s5 wr => ∃ (k : Nat) (f : Arr), a ≤ k ∧ k + 1 ≤ i ∧ s5 = .int .i64 k ∧ St w0 blk N f wr ∧ RowKit.Hid (Pm a b d f ∧ f k = d a ∧ Mv r f a b k ∧ (∀ p, k < p → p < b → f p = d p) ∧ (∀ p, a ≤ p → p < k → r (f p) (d a)))) (fun s5 _ => i - (intOf s5).toNat)
      case atStart => exact ⟨a, d, Nat.le_refl _, by omega, rfl, HS.out, Lib.hid ⟨Pm.refl _, rfl, fun p q c1 c2 c3 c4 c5 => HS2.out p q (by have := HONE.out; omega) c2 c3, fun p _ _ => rfl, fun p _ _ => by omega⟩⟩
      case round =>
        obtain ⟨k, f, k1, k2, rfl, hs, J⟩ := hrel
        by_cases hk : k + 1 < i
        · have c0 : (k : Int) < (i : Int) - 1 := by omega
          have q0 := hs.at_.cell k (by omega)
          have q1 := hs.at_.cell (k + 1) (by omega)
          have f0 := hs.at_.froz k (by omega)
          have f1 := hs.at_.froz (k + 1) (by omega)
          have HE := Lib.hid (hs.swp' k (k + 1) (by omega) (by omega) (by omega))
          have HJ2 : RowKit.Hid (Pm a b d (swp f k (k + 1)) ∧ swp f k (k + 1) (k + 1) = d a ∧ Mv r (swp f k (k + 1)) a b (k + 1) ∧ (∀ p, k + 1 < p → p < b → swp f k (k + 1) p = d p) ∧ (∀ p, a ≤ p → p < k + 1 → r (swp f k (k + 1) p) (d a))) := Lib.hid (by
            obtain ⟨j1, j2, j3, j4, j5⟩ := J.out
            refine ⟨Pm.step k (k + 1) j1 k1 (by omega) (by omega) (by omega), ?_, j3.up (by omega) k1, fun p c1 c2 => ?_, fun p c1 c2 => ?_⟩
            · unfold swp; rw [if_neg (by omega), if_pos rfl]; exact j2
            · unfold swp; rw [if_neg (by omega), if_neg (by omega)]; exact j4 p (by omega) c2
            · unfold swp
              by_cases c : p = k
              · rw [if_pos c, j4 (k + 1) (by omega) (by omega)]; exact I.out.1 _ (by have := HONE.out; omega) (by omega)
              · rw [if_neg c, if_neg (by omega)]; exact j5 p c1 (by omega))
          clear hs
          generalize f k = x at *
          generalize f (k + 1) = y at *
          have a0 : IntKind.i64.wrap ((k : Int) + 1) = (k : Int) + 1 := IntWalk.i64_in _ (by omega)
          have a1 : ((k : Int) + 1).toNat = k + 1 := by omega
          have a2 : (k : Int) + 1 < (N : Int) := by omega
          have a3 : (k : Int) < (N : Int) := by omega
          have a4 : (0 : Int) ≤ (k : Int) := by omega
          have a5 : (0 : Int) ≤ (k : Int) + 1 := by omega
          have a6 : k ≠ k + 1 := by omega
          go_wp2_with fail
          go_region
          go_wp2
          go_roundw
          case rel => exact ⟨k + 1, _, by omega, by omega, by go_num, HE.out.drew, HJ2⟩
          case measure => simp [intOf]; omega
        · have ek : k + 1 = i := by omega
          have c0 : ¬ (k : Int) < (i : Int) - 1 := by omega
          have HEND : RowKit.Hid (∃ d', Pm a b d d' ∧ Srt r d' a b ∧ St w0 blk N d' wr) := Lib.hid (by
            obtain ⟨j1, j2, j3, j4, j5⟩ := J.out
            refine ⟨f, j1, j3.done (fun p c1 c2 => by rw [j2]; exact j5 p c1 c2) (fun p c1 c2 => ?_), hs⟩
            rw [j2, j4 p c1 c2]
            exact I.out.2 p (by omega) c2)
          clear hs
          go_wp2
          go_end0
          exact ⟨rfl, HEND.out⟩
set_option maxRecDepth 100000 in
set_option maxHeartbeats 8000000 in
theorem symM_right (w0 : World) (blk N cap bc : Nat) (K : Int → Int → Int) (hc : Cmp w0 blk N bc K) (r : Int → Int → Prop) (ho : Ord r) (hN : N ≤ 1000) (d : Arr) (a m b : Nat) (w : World) (h : St w0 blk N d w) (ham : a < m) (hmb : m < b) (hb : b ≤ N)
    (hv : ∀ i, i < N → 0 ≤ d i ∧ d i < N) (hcr : Crs K r d a m b) (h1 : Srt r d a m) (h2 : Srt r d m b) (hone : b = m + 1) (hn : m ≠ a + 1) :
    Calls Try.prog 32 #[.slice (some ⟨blk, 0, none⟩) N cap, .int .i64 a, .int .i64 m, .int .i64 b, fv bc] w (SortQ w0 blk N r d a b) := by
  have H0 := Lib.hid h; have HC := Lib.hid hc; have HCR := Lib.hid hcr; have HO := Lib.hid ho; have HV := Lib.hid hv; have HS1 := Lib.hid h1; have HS2 := Lib.hid h2
  have e1 : (((m : Int) - (a : Int)) == 1) = false := by simp; omega
  have e2 : (((b : Int) - (m : Int)) == 1) = true := by simp; omega
  have HONE := Lib.hid hone
  clear h hc hcr ho hv h1 h2 hone hn
  go_enter Try.func32, Try.ntmps32
  go_wp2
  go_loopw [14, 15] (fun s5 s6 wr => ∃ i j : Nat, a ≤ i ∧ i ≤ j ∧ j ≤ m ∧ s5 = .int .i64 i ∧ s6 = .int .i64 j ∧ St w0 blk N d wr ∧ RowKit.Hid ((∀ k, a ≤ k → k < i → r (d k) (d m)) ∧ (∀ k, j ≤ k → k < m → r (d m) (d k)))) (fun s5 s6 _ => (intOf s6 - intOf s5).toNat)
  case atStart => exact ⟨a, m, Nat.le_refl _, by omega, Nat.le_refl _, rfl, rfl, H0.out, Lib.hid ⟨fun k _ _ => by omega, fun k _ _ => by omega⟩⟩
  case round =>
    obtain ⟨i, j, g1, g2, g3, rfl, rfl, hs, I⟩ := hrel
    by_cases hlt : i < j
    · obtain ⟨t, ht⟩ : ∃ t, (i + j) / 2 = t := ⟨_, rfl⟩
      have b0 : ((i : Int) + (j : Int)) / 2 = (t : Int) := by omega
      have b1 : i ≤ t := by omega
      have b2 : t < j := by omega
      have b3 : (0 : Int) ≤ (t : Int) := by omega
      have b4 : (t : Int) < (N : Int) := by omega
      have b5 : (0 : Int) ≤ (m : Int) := by omega
      have b6 : (m : Int) < (N : Int) := by omega
      have HT := Lib.hid ht
      clear ht
      have HFIT := Lib.hid (HCR.out t m (by omega) (by omega) (Nat.le_refl _) hmb)
      unfold Fit at HFIT
      have HUP : RowKit.Hid (r (d t) (d m) → ((∀ k, a ≤ k → k < t + 1 → r (d k) (d m)) ∧ (∀ k, j ≤ k → k < m → r (d m) (d k)))) := Lib.hid (fun hr => ⟨fun k c1 c2 => by
        by_cases c : k = t
        · subst c; exact hr
        · exact HO.out.tr (HS1.out k t c1 (by omega) (by omega)) hr, I.out.2⟩)
      have HDN : RowKit.Hid (r (d m) (d t) → ((∀ k, a ≤ k → k < i → r (d k) (d m)) ∧ (∀ k, t ≤ k → k < m → r (d m) (d k)))) := Lib.hid (fun hr => ⟨I.out.1, fun k c1 c2 => by
        by_cases c : k = t
        · subst c; exact hr
        · exact HO.out.tr hr (HS1.out t k (by omega) (by omega) c2)⟩)
      have q0 := hs.at_.cell (m) (by omega)
      have q1 := hs.at_.cell (t) (by omega)
      have CQ : RowKit.Hid (∀ n, Calls Try.prog 22 #[.int .i64 (d (m)), .int .i64 (d (t)), .pointer (some ⟨bc, 0, none⟩)] (wr.drewN n) fun e w' => e = .returned (.int .i64 (K (d (m)) (d (t)))) ∧ ∃ m, w' = (wr.drewN n).drewN m) :=
        Lib.hid (fun n => HC.out.run _ _ _ (HV.out _ (by omega)).1 (HV.out _ (by omega)).2 (HV.out _ (by omega)).1 (HV.out _ (by omega)).2 (hs.kept.drewN n))
      have HS := Lib.hid hs
      clear hs
      obtain ⟨x, hx⟩ : ∃ x, d (m) = x := ⟨_, rfl⟩
      obtain ⟨y, hy⟩ : ∃ y, d (t) = y := ⟨_, rfl⟩
      rw [hx] at q0; rw [hy] at q1; rw [hx, hy] at CQ HFIT
      have HX := Lib.hid hx; have HY := Lib.hid hy
      clear hx hy
      obtain ⟨z, hz⟩ : ∃ z, K x y = z := ⟨_, rfl⟩
      rw [hz] at CQ HFIT
      clear hz
      by_cases hzl : z < 0
      · go_wp2_with fail
        go_quiet ((go_at_call 22; first | exact qf (CQ.out _) | exact qe (CQ.out _)))
        have HU : RowKit.Hid _ := Lib.hid (HDN.out (by rw [HX.out, HY.out]; exact HFIT.out.1 hzl))
        have HS3 := Lib.hid (HS.out.drewN nq)
        clear q0 q1 CQ HUP HDN HFIT HX HY
        go_wp2
        go_roundw
        case rel => exact ⟨i, t, g1, by omega, by omega, rfl, rfl, HS3.out, HU⟩
        case measure => simp [intOf]; omega
      · have hzd : decide (z < 0) = false := decide_eq_false hzl
        go_wp2_with fail
        go_quiet ((go_at_call 22; first | exact qf (CQ.out _) | exact qe (CQ.out _)))
        have HU : RowKit.Hid _ := Lib.hid (HUP.out (by rw [HX.out, HY.out]; exact HFIT.out.2 (by omega)))
        have HS3 := Lib.hid (HS.out.drewN nq)
        clear q0 q1 CQ HUP HDN HFIT HX HY
        go_wp2
        go_roundw
        case rel => exact ⟨t + 1, j, by omega, by omega, g3, by go_num, rfl, HS3.out, HU⟩
        case measure => simp [intOf]; omega
    · obtain rfl : i = j := by omega
      have HS := Lib.hid hs
      clear hs
      obtain ⟨wx, rfl⟩ : ∃ wx, wx = wr := ⟨_, rfl⟩
      go_wp2
      go_loopw [17] (fun s5 wr => ∃ (k : Nat) (f : Arr), i ≤ k ∧ k ≤ m ∧ s5 = .int .i64 k ∧ St w0 blk N f wr ∧ RowKit.Hid (Pm a b d f ∧ f k = d m ∧ Mv r f a b k ∧ (∀ p, a ≤ p → p < k → f p = d p) ∧ (∀ p, k < p → p < b → r (d m) (f p)))) (fun s5 _ => (intOf s5).toNat)
      case atStart => exact ⟨m, d, g3, Nat.le_refl _, rfl, HS.out, Lib.hid ⟨Pm.refl _, rfl, fun p q c1 c2 c3 c4 c5 => HS1.out p q c1 c2 (by have := HONE.out; omega), fun p _ _ => rfl, fun p _ _ => by have := HONE.out; omega⟩⟩
      case round =>
        obtain ⟨k, f, k1, k2, rfl, hs, J⟩ := hrel
        by_cases hk : i < k
        · have c0 : (k : Int) > (i : Int) := by omega
          have q0 := hs.at_.cell k (by omega)
          have q1 := hs.at_.cell (k - 1) (by omega)
          have f0 := hs.at_.froz k (by omega)
          have f1 := hs.at_.froz (k - 1) (by omega)
          have HE := Lib.hid (hs.swp' k (k - 1) (by omega) (by omega) (by omega))
          have HJ2 : RowKit.Hid (Pm a b d (swp f k (k - 1)) ∧ swp f k (k - 1) (k - 1) = d m ∧ Mv r (swp f k (k - 1)) a b (k - 1) ∧ (∀ p, a ≤ p → p < k - 1 → swp f k (k - 1) p = d p) ∧ (∀ p, k - 1 < p → p < b → r (d m) (swp f k (k - 1) p))) := Lib.hid (by
            obtain ⟨j1, j2, j3, j4, j5⟩ := J.out
            refine ⟨Pm.step k (k - 1) j1 (by omega) (by omega) (by omega) (by omega), ?_, j3.down (by omega) (by omega), fun p c1 c2 => ?_, fun p c1 c2 => ?_⟩
            · unfold swp; rw [if_neg (by omega), if_pos rfl]; exact j2
            · unfold swp; rw [if_neg (by omega), if_neg (by omega)]; exact j4 p c1 (by omega)
            · unfold swp
              by_cases c : p = k
              · rw [if_pos c, j4 (k - 1) (by omega) (by omega)]; exact I.out.2 _ (by omega) (by omega)
              · rw [if_neg c, if_neg (by omega)]; exact j5 p (by omega) c2)
          clear hs
          generalize f k = x at *
          generalize f (k - 1) = y at *
          have a0 : IntKind.i64.wrap ((k : Int) - 1) = (k : Int) - 1 := IntWalk.i64_in _ (by omega)
          have a1 : ((k : Int) - 1).toNat = k - 1 := by omega
          have a2 : (k : Int) - 1 < (N : Int) := by omega
          have a3 : (k : Int) < (N : Int) := by omega
          have a4 : (0 : Int) ≤ (k : Int) := by omega
          have a5 : (0 : Int) ≤ (k : Int) - 1 := by omega
          have a6 : k ≠ k - 1 := by omega
          have HJ1 : RowKit.Hid ((k : Int) - 1 = ((k - 1 : Nat) : Int)) := Lib.hid (by omega)
          go_wp2_with fail
          go_region
          go_wp2
          go_roundw
          case rel => exact ⟨k - 1, _, by omega, by omega, by rw [HJ1.out], HE.out.drew, HJ2⟩
          case measure => simp [intOf]; omega
        · have ek : k = i := by omega
          have c0 : ¬ (k : Int) > (i : Int) := by omega
          have HEND : RowKit.Hid (∃ d', Pm a b d d' ∧ Srt r d' a b ∧ St w0 blk N d' wr) := Lib.hid (by
            obtain ⟨j1, j2, j3, j4, j5⟩ := J.out
            refine ⟨f, j1, j3.done (fun p c1 c2 => ?_) (fun p c1 c2 => by rw [j2]; exact j5 p c1 c2), hs⟩
            rw [j2, j4 p c1 c2]
            exact I.out.1 p c1 (by omega))
          clear hs
          go_wp2
          go_end0
          exact ⟨rfl, HEND.out⟩
set_option maxRecDepth 100000 in
set_option maxHeartbeats 8000000 in
theorem symM_up (w0 : World) (blk N cap bc : Nat) (K : Int → Int → Int) (hc : Cmp w0 blk N bc K) (r : Int → Int → Prop) (ho : Ord r) (hN : N ≤ 1000) (n : Nat) (ih : ∀ (d : Arr) (a m b : Nat) (w : World), b - a ≤ n → St w0 blk N d w → a < m → m < b → b ≤ N → (∀ i, i < N → 0 ≤ d i ∧ d i < N) → Crs K r d a m b → Srt r d a m → Srt r d m b → Calls Try.prog 32 #[.slice (some ⟨blk, 0, none⟩) N cap, .int .i64 a, .int .i64 m, .int .i64 b, fv bc] w (SortQ w0 blk N r d a b)) (d : Arr) (a m b : Nat) (w : World) (h : St w0 blk N d w) (ham : a < m) (hmb : m < b) (hb : b ≤ N)
    (hv : ∀ i, i < N → 0 ≤ d i ∧ d i < N) (hcr : Crs K r d a m b) (h1 : Srt r d a m) (h2 : Srt r d m b) (hbn : b - a ≤ n + 1) (hn1 : m ≠ a + 1) (hn2 : b ≠ m + 1) (hside : (a + b) / 2 < m) :
    Calls Try.prog 32 #[.slice (some ⟨blk, 0, none⟩) N cap, .int .i64 a, .int .i64 m, .int .i64 b, fv bc] w (SortQ w0 blk N r d a b) := by
  have H0 := Lib.hid h; have HC := Lib.hid hc; have HCR := Lib.hid hcr; have HO := Lib.hid ho; have HV := Lib.hid hv; have HS1 := Lib.hid h1; have HS2 := Lib.hid h2
  have e1 : (((m : Int) - (a : Int)) == 1) = false := by simp; omega
  have e2 : (((b : Int) - (m : Int)) == 1) = false := by simp; omega
  have IH := Lib.hid ih
  obtain ⟨M, hM⟩ : ∃ M, (a + b) / 2 = M := ⟨_, rfl⟩
  have m0 : ((a : Int) + (b : Int)) / 2 = (M : Int) := by omega
  have m1 : a < M := by omega
  have m2 : M < b := by omega
  obtain ⟨L, hL⟩ : ∃ L, M + m - b = L := ⟨_, rfl⟩
  have l0 : (M : Int) + (m : Int) - (b : Int) = (L : Int) := by omega
  have l1 : a ≤ L := by omega
  have l2 : L ≤ M := by omega
  have l3 : M < m := by omega
  have l4 : M + m ≤ L + b := by omega
  have l5 : (m : Int) > (M : Int) := by omega
  have HM2 := Lib.hid hM
  have l6 : 2 * M ≤ a + b := by omega
  have l7 : a + b ≤ 2 * M + 1 := by omega
  clear h hc hcr ho hv h1 h2 ih hM hside hL
  go_enter Try.func32, Try.ntmps32
  go_wp2
  go_loopw [20, 21] (fun s5 s6 wr => ∃ s t : Nat, L ≤ s ∧ s ≤ t ∧ t ≤ M ∧ s5 = .int .i64 s ∧ s6 = .int .i64 t ∧ St w0 blk N d wr ∧ RowKit.Hid ((∀ c, L ≤ c → c < s → r (d c) (d (M + m - 1 - c))) ∧ (∀ c, t ≤ c → c < M → r (d (M + m - 1 - c)) (d c)))) (fun s5 s6 _ => (intOf s6 - intOf s5).toNat)
  case atStart => exact ⟨L, M, Nat.le_refl _, by omega, Nat.le_refl _, rfl, rfl, H0.out, Lib.hid ⟨fun k _ _ => by omega, fun k _ _ => by omega⟩⟩
  case round =>
    obtain ⟨s, t, g1, g2, g3, rfl, rfl, hs, I⟩ := hrel
    by_cases hlt : s < t
    · obtain ⟨u, hu⟩ : ∃ u, (s + t) / 2 = u := ⟨_, rfl⟩
      have b0 : ((s : Int) + (t : Int)) / 2 = (u : Int) := by omega
      have b1 : s ≤ u := by omega
      have b2 : u < t := by omega
      clear hu
      obtain ⟨v, hv⟩ : ∃ v, M + m - 1 - u = v := ⟨_, rfl⟩
      have b3 : (M : Int) + (m : Int) - 1 - (u : Int) = (v : Int) := by omega
      have b4 : m ≤ v := by omega
      have b5 : v < b := by omega
      have b6 : u < m := by omega
      have c0 : IntKind.i64.wrap ((M : Int) + (m : Int) - 1 - (u : Int)) = (v : Int) := by rw [b3]; exact IntWalk.i64_in _ (by omega)
      have c3 : (0 : Int) ≤ (u : Int) := by omega
      have c4 : (u : Int) < (N : Int) := by omega
      have c5 : (0 : Int) ≤ (v : Int) := by omega
      have c6 : (v : Int) < (N : Int) := by omega
      have HFIT := Lib.hid (HCR.out u v (by omega) b6 b4 b5)
      unfold Fit at HFIT
      have HUP : RowKit.Hid (r (d u) (d v) → ((∀ c, L ≤ c → c < u + 1 → r (d c) (d (M + m - 1 - c))) ∧ (∀ c, t ≤ c → c < M → r (d (M + m - 1 - c)) (d c)))) := Lib.hid (fun hr => ⟨fun k c1 c2 => by
        by_cases c : k = u
        · subst c; rw [hv]; exact hr
        · exact HO.out.tr (HO.out.tr (HS1.out k u (by omega) (by omega) b6) hr) (HS2.out v _ b4 (by omega) (by omega)), I.out.2⟩)
      have HDN : RowKit.Hid (r (d v) (d u) → ((∀ c, L ≤ c → c < s → r (d c) (d (M + m - 1 - c))) ∧ (∀ c, u ≤ c → c < M → r (d (M + m - 1 - c)) (d c)))) := Lib.hid (fun hr => ⟨I.out.1, fun k c1 c2 => by
        by_cases c : k = u
        · subst c; rw [hv]; exact hr
        · exact HO.out.tr (HO.out.tr (HS2.out _ v (by omega) (by omega) b5) hr) (HS1.out u k (by omega) (by omega) (by omega))⟩)
      clear hv
      have q0 := hs.at_.cell (v) (by omega)
      have q1 := hs.at_.cell (u) (by omega)
      have CQ : RowKit.Hid (∀ n, Calls Try.prog 22 #[.int .i64 (d (v)), .int .i64 (d (u)), .pointer (some ⟨bc, 0, none⟩)] (wr.drewN n) fun e w' => e = .returned (.int .i64 (K (d (v)) (d (u)))) ∧ ∃ m, w' = (wr.drewN n).drewN m) :=
        Lib.hid (fun n => HC.out.run _ _ _ (HV.out _ (by omega)).1 (HV.out _ (by omega)).2 (HV.out _ (by omega)).1 (HV.out _ (by omega)).2 (hs.kept.drewN n))
      have HS := Lib.hid hs
      clear hs
      obtain ⟨x, hx⟩ : ∃ x, d (v) = x := ⟨_, rfl⟩
      obtain ⟨y, hy⟩ : ∃ y, d (u) = y := ⟨_, rfl⟩
      rw [hx] at q0; rw [hy] at q1; rw [hx, hy] at CQ HFIT
      have HX := Lib.hid hx; have HY := Lib.hid hy
      clear hx hy
      obtain ⟨z, hz⟩ : ∃ z, K x y = z := ⟨_, rfl⟩
      rw [hz] at CQ HFIT
      clear hz
      by_cases hzl : z < 0
      · go_wp2_with fail
        go_quiet ((go_at_call 22; first | exact qf (CQ.out _) | exact qe (CQ.out _)))
        have HU : RowKit.Hid _ := Lib.hid (HDN.out (by rw [HX.out, HY.out]; exact HFIT.out.1 hzl))
        have HS3 := Lib.hid (HS.out.drewN nq)
        clear q0 q1 CQ HUP HDN HFIT HX HY
        go_wp2
        go_roundw
        case rel => exact ⟨s, u, g1, by omega, by omega, rfl, rfl, HS3.out, HU⟩
        case measure => simp [intOf]; omega
      · have hzd : decide (z < 0) = false := decide_eq_false hzl
        go_wp2_with fail
        go_quiet ((go_at_call 22; first | exact qf (CQ.out _) | exact qe (CQ.out _)))
        have HU : RowKit.Hid _ := Lib.hid (HUP.out (by rw [HX.out, HY.out]; exact HFIT.out.2 (by omega)))
        have HS3 := Lib.hid (HS.out.drewN nq)
        clear q0 q1 CQ HUP HDN HFIT HX HY
        go_wp2
        go_roundw
        case rel => exact ⟨u + 1, t, by omega, by omega, g3, by go_num, rfl, HS3.out, HU⟩
        case measure => simp [intOf]; omega
    · obtain rfl : s = t := by omega
      have HS := Lib.hid hs
      clear hs
      obtain ⟨E, hE⟩ : ∃ E, M + m - s = E := ⟨_, rfl⟩
      have z0 : (M : Int) + (m : Int) - (s : Int) = (E : Int) := by omega
      have z1 : E ≤ b := by omega
      have z2 : E + s = M + m := by omega
      have z3 : a ≤ s := by omega
      have z4 : s ≤ M := by omega
      have z5 : s ≤ m := by omega
      have HPART : RowKit.Hid (Part r d a m b M s) := Lib.hid ⟨z3, z4, z5, by omega, fun c1 c2 => by
          have := I.out.1 (s - 1) (by omega) (by omega)
          rw [show M + m - 1 - (s - 1) = M + m - s by omega] at this
          exact this, fun c1 c2 => I.out.2 s (Nat.le_refl _) (by omega)⟩
      have HCROSS : RowKit.Hid (∀ i j, a ≤ i → i < M → M ≤ j → j < b → r (rot d s m E i) (rot d s m E j)) := Lib.hid (by
        rw [← hE]; exact part_ok HO.out HS1.out HS2.out (by omega) (by omega) ⟨by omega, by omega⟩ HPART.out)
      have HLEFT : RowKit.Hid (Crs K r (rot d s m E) a s M ∧ Srt r (rot d s m E) a s ∧ Srt r (rot d s m E) s M) := Lib.hid (by
        rw [← hE]; exact part_left HCR.out HS1.out HS2.out z3 z4 z5 (by omega))
      have HRIGHT : RowKit.Hid (Crs K r (rot d s m E) M E b ∧ Srt r (rot d s m E) M E ∧ Srt r (rot d s m E) E b) := Lib.hid (by
        rw [← hE]; exact part_right HCR.out HS1.out HS2.out z3 z4 z5 (by omega))
      have HPM : RowKit.Hid (Pm a b d (rot d s m E)) := Lib.hid (by
        have := rot_pm d m a b (M + m) (m - s) (M - s) d (by omega) (by omega) (by omega) (by omega)
        rw [show m - (m - s) = s by omega, show m + (M - s) = E by omega] at this
        exact this)
      have HNONE : RowKit.Hid ((s = m ∨ m = E) → rot d s m E = d) := Lib.hid (fun c => rot_none d s m E c z5 (by omega))
      have HROT := Lib.hid (fun c1 c2 => rotate_any w0 blk N cap bc d s m E wr HS.out c1 c2 (by omega) hN)
      have HZ2 := Lib.hid z2
      clear hE z2 I HPART
      obtain ⟨F, hF⟩ : ∃ F, rot d s m E = F := ⟨_, rfl⟩
      rw [hF] at HCROSS HLEFT HRIGHT HPM HNONE HROT
      have HVF : RowKit.Hid (∀ f, Pm a b d f → ∀ i, i < N → 0 ≤ f i ∧ f i < N) := Lib.hid (fun f hpf i hi => (hpf.mono (Nat.zero_le a) hb).all (fun x => 0 ≤ x ∧ x < N) (fun j _ hj => HV.out j hj) i (Nat.zero_le _) hi)
      clear hF
      by_cases hP : s < m
      · by_cases hQ : s < M
        · by_cases hA : a < s
          · by_cases hB : E < b
            · have p0 : (s : Int) < (m : Int) := by omega
              have p1 : (m : Int) < (E : Int) := by have := HZ2.out; omega
              have p2 : (a : Int) < (s : Int) := by omega
              have p3 : (s : Int) < (M : Int) := by omega
              have p4 : (M : Int) < (E : Int) := by have := HZ2.out; omega
              have p5 : (E : Int) < (b : Int) := by omega
              have hme : m < E := by have := HZ2.out; omega
              have HR2 := Lib.hid (HROT.out hP hme)
              clear HROT
              go_wp2_with fail
              refine HR2.out.mono ?_
              rintro en w2 ⟨rfl, k2⟩
              have K2 := Lib.hid k2
              clear k2 HR2
              have HI1 := Lib.hid (IH.out F a s M w2 (by omega) K2.out hA hQ (by omega) (HVF.out F HPM.out) HLEFT.out.1 HLEFT.out.2.1 HLEFT.out.2.2)
              go_wp2_with fail
              refine HI1.out.mono ?_
              rintro en w3 ⟨rfl, F2, x1, x2, x3⟩
              have X1 := Lib.hid x1; have X2 := Lib.hid x2; have K3 := Lib.hid x3
              clear x1 x2 x3 HI1
              have hME : M < E := by have := HZ2.out; omega
              have HI2 := Lib.hid (IH.out F2 M E b w3 (by omega) K3.out hME hB hb (HVF.out F2 (HPM.out.trans (X1.out.mono (Nat.le_refl _) (by omega)))) (HRIGHT.out.1.congr (fun k c1 c2 => X1.out.out k (by omega))) (HRIGHT.out.2.1.congr (fun k c1 c2 => X1.out.out k (by omega))) (HRIGHT.out.2.2.congr (fun k c1 c2 => X1.out.out k (by omega))))
              go_wp2_with fail
              refine HI2.out.mono ?_
              rintro en w4 ⟨rfl, F3, y1, y2, y3⟩
              have HEND : RowKit.Hid (∃ d', Pm a b d d' ∧ Srt r d' a b ∧ St w0 blk N d' w4) := Lib.hid (by
                obtain ⟨n1, n2⟩ := fin_ HPM.out HCROSS.out ⟨by omega, by omega⟩ X1.out X2.out y1 y2
                exact ⟨F3, n1, n2, y3⟩)
              clear y1 y2 y3 HI2
              go_wp2
              all_goals go_end0
              all_goals exact ⟨rfl, HEND.out⟩
            · have p0 : (s : Int) < (m : Int) := by omega
              have p1 : (m : Int) < (E : Int) := by have := HZ2.out; omega
              have p2 : (a : Int) < (s : Int) := by omega
              have p3 : (s : Int) < (M : Int) := by omega
              have p4 : (M : Int) < (E : Int) := by have := HZ2.out; omega
              have p5 : decide ((E : Int) < (b : Int)) = false := decide_eq_false (by omega)
              have hme : m < E := by have := HZ2.out; omega
              have HR2 := Lib.hid (HROT.out hP hme)
              clear HROT
              go_wp2_with fail
              refine HR2.out.mono ?_
              rintro en w2 ⟨rfl, k2⟩
              have K2 := Lib.hid k2
              clear k2 HR2
              have HI1 := Lib.hid (IH.out F a s M w2 (by omega) K2.out hA hQ (by omega) (HVF.out F HPM.out) HLEFT.out.1 HLEFT.out.2.1 HLEFT.out.2.2)
              go_wp2_with fail
              refine HI1.out.mono ?_
              rintro en w3 ⟨rfl, F2, x1, x2, x3⟩
              have X1 := Lib.hid x1; have X2 := Lib.hid x2; have K3 := Lib.hid x3
              clear x1 x2 x3 HI1
              have HEND : RowKit.Hid (∃ d', Pm a b d d' ∧ Srt r d' a b ∧ St w0 blk N d' w3) := Lib.hid (by
                have e : E = b := by have := HZ2.out; omega
                have h3 : Srt r F2 M b := (Srt.congr (by have := HRIGHT.out.2.1; rw [e] at this; exact this) (fun k c1 c2 => X1.out.out k (by omega)))
                obtain ⟨n1, n2⟩ := fin_ HPM.out HCROSS.out ⟨by omega, by omega⟩ X1.out X2.out (Pm.refl _) h3
                exact ⟨F2, n1, n2, K3.out⟩)
              go_wp2
              all_goals go_end0
              all_goals exact ⟨rfl, HEND.out⟩
          · by_cases hB : E < b
            · have p0 : (s : Int) < (m : Int) := by omega
              have p1 : (m : Int) < (E : Int) := by have := HZ2.out; omega
              have p2 : decide ((a : Int) < (s : Int)) = false := decide_eq_false (by omega)
              have p3 : (s : Int) < (M : Int) := by omega
              have p4 : (M : Int) < (E : Int) := by have := HZ2.out; omega
              have p5 : (E : Int) < (b : Int) := by omega
              have hme : m < E := by have := HZ2.out; omega
              have HR2 := Lib.hid (HROT.out hP hme)
              clear HROT
              go_wp2_with fail
              refine HR2.out.mono ?_
              rintro en w2 ⟨rfl, k2⟩
              have K2 := Lib.hid k2
              clear k2 HR2
              have e9 : a = s := by omega
              have X2 : RowKit.Hid (Srt r F a M) := Lib.hid (by rw [e9]; exact HLEFT.out.2.2)
              clear e9
              have X1 : RowKit.Hid (Pm a M F F) := Lib.hid (Pm.refl _)
              have K3 := K2
              have hME : M < E := by have := HZ2.out; omega
              have HI2 := Lib.hid (IH.out F M E b w2 (by omega) K3.out hME hB hb (HVF.out F (HPM.out.trans (X1.out.mono (Nat.le_refl _) (by omega)))) (HRIGHT.out.1.congr (fun k c1 c2 => X1.out.out k (by omega))) (HRIGHT.out.2.1.congr (fun k c1 c2 => X1.out.out k (by omega))) (HRIGHT.out.2.2.congr (fun k c1 c2 => X1.out.out k (by omega))))
              go_wp2_with fail
              refine HI2.out.mono ?_
              rintro en w4 ⟨rfl, F3, y1, y2, y3⟩
              have HEND : RowKit.Hid (∃ d', Pm a b d d' ∧ Srt r d' a b ∧ St w0 blk N d' w4) := Lib.hid (by
                obtain ⟨n1, n2⟩ := fin_ HPM.out HCROSS.out ⟨by omega, by omega⟩ X1.out X2.out y1 y2
                exact ⟨F3, n1, n2, y3⟩)
              clear y1 y2 y3 HI2
              go_wp2
              all_goals go_end0
              all_goals exact ⟨rfl, HEND.out⟩
            · have p0 : (s : Int) < (m : Int) := by omega
              have p1 : (m : Int) < (E : Int) := by have := HZ2.out; omega
              have p2 : decide ((a : Int) < (s : Int)) = false := decide_eq_false (by omega)
              have p3 : (s : Int) < (M : Int) := by omega
              have p4 : (M : Int) < (E : Int) := by have := HZ2.out; omega
              have p5 : decide ((E : Int) < (b : Int)) = false := decide_eq_false (by omega)
              have hme : m < E := by have := HZ2.out; omega
              have HR2 := Lib.hid (HROT.out hP hme)
              clear HROT
              go_wp2_with fail
              refine HR2.out.mono ?_
              rintro en w2 ⟨rfl, k2⟩
              have K2 := Lib.hid k2
              clear k2 HR2
              have e9 : a = s := by omega
              have X2 : RowKit.Hid (Srt r F a M) := Lib.hid (by rw [e9]; exact HLEFT.out.2.2)
              clear e9
              have X1 : RowKit.Hid (Pm a M F F) := Lib.hid (Pm.refl _)
              have K3 := K2
              have HEND : RowKit.Hid (∃ d', Pm a b d d' ∧ Srt r d' a b ∧ St w0 blk N d' w2) := Lib.hid (by
                have e : E = b := by have := HZ2.out; omega
                have h3 : Srt r F M b := (Srt.congr (by have := HRIGHT.out.2.1; rw [e] at this; exact this) (fun k c1 c2 => X1.out.out k (by omega)))
                obtain ⟨n1, n2⟩ := fin_ HPM.out HCROSS.out ⟨by omega, by omega⟩ X1.out X2.out (Pm.refl _) h3
                exact ⟨F, n1, n2, K3.out⟩)
              go_wp2
              all_goals go_end0
              all_goals exact ⟨rfl, HEND.out⟩
        · by_cases hA : a < s
          · by_cases hB : E < b
            · have p0 : (s : Int) < (m : Int) := by omega
              have p1 : decide ((m : Int) < (E : Int)) = false := decide_eq_false (by have := HZ2.out; omega)
              have p2 : (a : Int) < (s : Int) := by omega
              have p3 : decide ((s : Int) < (M : Int)) = false := decide_eq_false (by omega)
              have p4 : (M : Int) < (E : Int) := by have := HZ2.out; omega
              have p5 : (E : Int) < (b : Int) := by omega
              have hdf : F = d := HNONE.out (.inr (by have := HZ2.out; omega))
              have K2 : RowKit.Hid (St w0 blk N F wr) := Lib.hid (by rw [hdf]; exact HS.out)
              have HDF := Lib.hid hdf
              clear hdf HROT
              have e9 : M = s := by omega
              have X2 : RowKit.Hid (Srt r F a M) := Lib.hid (by rw [e9]; exact HLEFT.out.2.1)
              clear e9
              have X1 : RowKit.Hid (Pm a M F F) := Lib.hid (Pm.refl _)
              have K3 := K2
              have hME : M < E := by have := HZ2.out; omega
              have HI2 := Lib.hid (IH.out F M E b wr (by omega) K3.out hME hB hb (HVF.out F (HPM.out.trans (X1.out.mono (Nat.le_refl _) (by omega)))) (HRIGHT.out.1.congr (fun k c1 c2 => X1.out.out k (by omega))) (HRIGHT.out.2.1.congr (fun k c1 c2 => X1.out.out k (by omega))) (HRIGHT.out.2.2.congr (fun k c1 c2 => X1.out.out k (by omega))))
              go_wp2_with fail
              refine HI2.out.mono ?_
              rintro en w4 ⟨rfl, F3, y1, y2, y3⟩
              have HEND : RowKit.Hid (∃ d', Pm a b d d' ∧ Srt r d' a b ∧ St w0 blk N d' w4) := Lib.hid (by
                obtain ⟨n1, n2⟩ := fin_ HPM.out HCROSS.out ⟨by omega, by omega⟩ X1.out X2.out y1 y2
                exact ⟨F3, n1, n2, y3⟩)
              clear y1 y2 y3 HI2
              go_wp2
              all_goals go_end0
              all_goals exact ⟨rfl, HEND.out⟩
            · have p0 : (s : Int) < (m : Int) := by omega
              have p1 : decide ((m : Int) < (E : Int)) = false := decide_eq_false (by have := HZ2.out; omega)
              have p2 : (a : Int) < (s : Int) := by omega
              have p3 : decide ((s : Int) < (M : Int)) = false := decide_eq_false (by omega)
              have p4 : (M : Int) < (E : Int) := by have := HZ2.out; omega
              have p5 : decide ((E : Int) < (b : Int)) = false := decide_eq_false (by omega)
              have hdf : F = d := HNONE.out (.inr (by have := HZ2.out; omega))
              have K2 : RowKit.Hid (St w0 blk N F wr) := Lib.hid (by rw [hdf]; exact HS.out)
              have HDF := Lib.hid hdf
              clear hdf HROT
              have e9 : M = s := by omega
              have X2 : RowKit.Hid (Srt r F a M) := Lib.hid (by rw [e9]; exact HLEFT.out.2.1)
              clear e9
              have X1 : RowKit.Hid (Pm a M F F) := Lib.hid (Pm.refl _)
              have K3 := K2
              have HEND : RowKit.Hid (∃ d', Pm a b d d' ∧ Srt r d' a b ∧ St w0 blk N d' wr) := Lib.hid (by
                have e : E = b := by have := HZ2.out; omega
                have h3 : Srt r F M b := (Srt.congr (by have := HRIGHT.out.2.1; rw [e] at this; exact this) (fun k c1 c2 => X1.out.out k (by omega)))
                obtain ⟨n1, n2⟩ := fin_ HPM.out HCROSS.out ⟨by omega, by omega⟩ X1.out X2.out (Pm.refl _) h3
                exact ⟨F, n1, n2, K3.out⟩)
              go_wp2
              all_goals go_end0
              all_goals exact ⟨rfl, HEND.out⟩
          · by_cases hB : E < b
            · exfalso
              omega
            · exfalso
              omega
      · by_cases hQ : s < M
        · by_cases hA : a < s
          · by_cases hB : E < b
            · exfalso
              omega
            · exfalso
              omega
          · by_cases hB : E < b
            · exfalso
              omega
            · exfalso
              omega
        · by_cases hA : a < s
          · by_cases hB : E < b
            · exfalso
              omega
            · exfalso
              omega
          · by_cases hB : E < b
            · exfalso
              omega
            · exfalso
              omega
set_option maxRecDepth 100000 in
set_option maxHeartbeats 8000000 in
theorem symM_down (w0 : World) (blk N cap bc : Nat) (K : Int → Int → Int) (hc : Cmp w0 blk N bc K) (r : Int → Int → Prop) (ho : Ord r) (hN : N ≤ 1000) (n : Nat) (ih : ∀ (d : Arr) (a m b : Nat) (w : World), b - a ≤ n → St w0 blk N d w → a < m → m < b → b ≤ N → (∀ i, i < N → 0 ≤ d i ∧ d i < N) → Crs K r d a m b → Srt r d a m → Srt r d m b → Calls Try.prog 32 #[.slice (some ⟨blk, 0, none⟩) N cap, .int .i64 a, .int .i64 m, .int .i64 b, fv bc] w (SortQ w0 blk N r d a b)) (d : Arr) (a m b : Nat) (w : World) (h : St w0 blk N d w) (ham : a < m) (hmb : m < b) (hb : b ≤ N)
    (hv : ∀ i, i < N → 0 ≤ d i ∧ d i < N) (hcr : Crs K r d a m b) (h1 : Srt r d a m) (h2 : Srt r d m b) (hbn : b - a ≤ n + 1) (hn1 : m ≠ a + 1) (hn2 : b ≠ m + 1) (hside : m ≤ (a + b) / 2) :
    Calls Try.prog 32 #[.slice (some ⟨blk, 0, none⟩) N cap, .int .i64 a, .int .i64 m, .int .i64 b, fv bc] w (SortQ w0 blk N r d a b) := by
  have H0 := Lib.hid h; have HC := Lib.hid hc; have HCR := Lib.hid hcr; have HO := Lib.hid ho; have HV := Lib.hid hv; have HS1 := Lib.hid h1; have HS2 := Lib.hid h2
  have e1 : (((m : Int) - (a : Int)) == 1) = false := by simp; omega
  have e2 : (((b : Int) - (m : Int)) == 1) = false := by simp; omega
  have IH := Lib.hid ih
  obtain ⟨M, hM⟩ : ∃ M, (a + b) / 2 = M := ⟨_, rfl⟩
  have m0 : ((a : Int) + (b : Int)) / 2 = (M : Int) := by omega
  have m1 : a < M := by omega
  have m2 : M < b := by omega
  have l3 : m ≤ M := by omega
  have l5 : ¬ (m : Int) > (M : Int) := by omega
  have HM2 := Lib.hid hM
  have l6 : 2 * M ≤ a + b := by omega
  have l7 : a + b ≤ 2 * M + 1 := by omega
  clear h hc hcr ho hv h1 h2 ih hM hside
  go_enter Try.func32, Try.ntmps32
  go_wp2
  go_loopw [20, 21] (fun s5 s6 wr => ∃ s t : Nat, a ≤ s ∧ s ≤ t ∧ t ≤ m ∧ s5 = .int .i64 s ∧ s6 = .int .i64 t ∧ St w0 blk N d wr ∧ RowKit.Hid ((∀ c, a ≤ c → c < s → r (d c) (d (M + m - 1 - c))) ∧ (∀ c, t ≤ c → c < m → r (d (M + m - 1 - c)) (d c)))) (fun s5 s6 _ => (intOf s6 - intOf s5).toNat)
  case atStart => exact ⟨a, m, Nat.le_refl _, by omega, Nat.le_refl _, rfl, rfl, H0.out, Lib.hid ⟨fun k _ _ => by omega, fun k _ _ => by omega⟩⟩
  case round =>
    obtain ⟨s, t, g1, g2, g3, rfl, rfl, hs, I⟩ := hrel
    by_cases hlt : s < t
    · obtain ⟨u, hu⟩ : ∃ u, (s + t) / 2 = u := ⟨_, rfl⟩
      have b0 : ((s : Int) + (t : Int)) / 2 = (u : Int) := by omega
      have b1 : s ≤ u := by omega
      have b2 : u < t := by omega
      clear hu
      obtain ⟨v, hv⟩ : ∃ v, M + m - 1 - u = v := ⟨_, rfl⟩
      have b3 : (M : Int) + (m : Int) - 1 - (u : Int) = (v : Int) := by omega
      have b4 : m ≤ v := by omega
      have b5 : v < b := by omega
      have b6 : u < m := by omega
      have c0 : IntKind.i64.wrap ((M : Int) + (m : Int) - 1 - (u : Int)) = (v : Int) := by rw [b3]; exact IntWalk.i64_in _ (by omega)
      have c3 : (0 : Int) ≤ (u : Int) := by omega
      have c4 : (u : Int) < (N : Int) := by omega
      have c5 : (0 : Int) ≤ (v : Int) := by omega
      have c6 : (v : Int) < (N : Int) := by omega
      have HFIT := Lib.hid (HCR.out u v (by omega) b6 b4 b5)
      unfold Fit at HFIT
      have HUP : RowKit.Hid (r (d u) (d v) → ((∀ c, a ≤ c → c < u + 1 → r (d c) (d (M + m - 1 - c))) ∧ (∀ c, t ≤ c → c < m → r (d (M + m - 1 - c)) (d c)))) := Lib.hid (fun hr => ⟨fun k c1 c2 => by
        by_cases c : k = u
        · subst c; rw [hv]; exact hr
        · exact HO.out.tr (HO.out.tr (HS1.out k u (by omega) (by omega) b6) hr) (HS2.out v _ b4 (by omega) (by omega)), I.out.2⟩)
      have HDN : RowKit.Hid (r (d v) (d u) → ((∀ c, a ≤ c → c < s → r (d c) (d (M + m - 1 - c))) ∧ (∀ c, u ≤ c → c < m → r (d (M + m - 1 - c)) (d c)))) := Lib.hid (fun hr => ⟨I.out.1, fun k c1 c2 => by
        by_cases c : k = u
        · subst c; rw [hv]; exact hr
        · exact HO.out.tr (HO.out.tr (HS2.out _ v (by omega) (by omega) b5) hr) (HS1.out u k (by omega) (by omega) (by omega))⟩)
      clear hv
      have q0 := hs.at_.cell (v) (by omega)
      have q1 := hs.at_.cell (u) (by omega)
      have CQ : RowKit.Hid (∀ n, Calls Try.prog 22 #[.int .i64 (d (v)), .int .i64 (d (u)), .pointer (some ⟨bc, 0, none⟩)] (wr.drewN n) fun e w' => e = .returned (.int .i64 (K (d (v)) (d (u)))) ∧ ∃ m, w' = (wr.drewN n).drewN m) :=
        Lib.hid (fun n => HC.out.run _ _ _ (HV.out _ (by omega)).1 (HV.out _ (by omega)).2 (HV.out _ (by omega)).1 (HV.out _ (by omega)).2 (hs.kept.drewN n))
      have HS := Lib.hid hs
      clear hs
      obtain ⟨x, hx⟩ : ∃ x, d (v) = x := ⟨_, rfl⟩
      obtain ⟨y, hy⟩ : ∃ y, d (u) = y := ⟨_, rfl⟩
      rw [hx] at q0; rw [hy] at q1; rw [hx, hy] at CQ HFIT
      have HX := Lib.hid hx; have HY := Lib.hid hy
      clear hx hy
      obtain ⟨z, hz⟩ : ∃ z, K x y = z := ⟨_, rfl⟩
      rw [hz] at CQ HFIT
      clear hz
      by_cases hzl : z < 0
      · go_wp2_with fail
        go_quiet ((go_at_call 22; first | exact qf (CQ.out _) | exact qe (CQ.out _)))
        have HU : RowKit.Hid _ := Lib.hid (HDN.out (by rw [HX.out, HY.out]; exact HFIT.out.1 hzl))
        have HS3 := Lib.hid (HS.out.drewN nq)
        clear q0 q1 CQ HUP HDN HFIT HX HY
        go_wp2
        go_roundw
        case rel => exact ⟨s, u, g1, by omega, by omega, rfl, rfl, HS3.out, HU⟩
        case measure => simp [intOf]; omega
      · have hzd : decide (z < 0) = false := decide_eq_false hzl
        go_wp2_with fail
        go_quiet ((go_at_call 22; first | exact qf (CQ.out _) | exact qe (CQ.out _)))
        have HU : RowKit.Hid _ := Lib.hid (HUP.out (by rw [HX.out, HY.out]; exact HFIT.out.2 (by omega)))
        have HS3 := Lib.hid (HS.out.drewN nq)
        clear q0 q1 CQ HUP HDN HFIT HX HY
        go_wp2
        go_roundw
        case rel => exact ⟨u + 1, t, by omega, by omega, g3, by go_num, rfl, HS3.out, HU⟩
        case measure => simp [intOf]; omega
    · obtain rfl : s = t := by omega
      have HS := Lib.hid hs
      clear hs
      obtain ⟨E, hE⟩ : ∃ E, M + m - s = E := ⟨_, rfl⟩
      have z0 : (M : Int) + (m : Int) - (s : Int) = (E : Int) := by omega
      have z1 : E ≤ b := by omega
      have z2 : E + s = M + m := by omega
      have z3 : a ≤ s := by omega
      have z4 : s ≤ M := by omega
      have z5 : s ≤ m := by omega
      have HPART : RowKit.Hid (Part r d a m b M s) := Lib.hid ⟨z3, z4, z5, by omega, fun c1 c2 => by
          have := I.out.1 (s - 1) (by omega) (by omega)
          rw [show M + m - 1 - (s - 1) = M + m - s by omega] at this
          exact this, fun c1 c2 => I.out.2 s (Nat.le_refl _) (by omega)⟩
      have HCROSS : RowKit.Hid (∀ i j, a ≤ i → i < M → M ≤ j → j < b → r (rot d s m E i) (rot d s m E j)) := Lib.hid (by
        rw [← hE]; exact part_ok HO.out HS1.out HS2.out (by omega) (by omega) ⟨by omega, by omega⟩ HPART.out)
      have HLEFT : RowKit.Hid (Crs K r (rot d s m E) a s M ∧ Srt r (rot d s m E) a s ∧ Srt r (rot d s m E) s M) := Lib.hid (by
        rw [← hE]; exact part_left HCR.out HS1.out HS2.out z3 z4 z5 (by omega))
      have HRIGHT : RowKit.Hid (Crs K r (rot d s m E) M E b ∧ Srt r (rot d s m E) M E ∧ Srt r (rot d s m E) E b) := Lib.hid (by
        rw [← hE]; exact part_right HCR.out HS1.out HS2.out z3 z4 z5 (by omega))
      have HPM : RowKit.Hid (Pm a b d (rot d s m E)) := Lib.hid (by
        have := rot_pm d m a b (M + m) (m - s) (M - s) d (by omega) (by omega) (by omega) (by omega)
        rw [show m - (m - s) = s by omega, show m + (M - s) = E by omega] at this
        exact this)
      have HNONE : RowKit.Hid ((s = m ∨ m = E) → rot d s m E = d) := Lib.hid (fun c => rot_none d s m E c z5 (by omega))
      have HROT := Lib.hid (fun c1 c2 => rotate_any w0 blk N cap bc d s m E wr HS.out c1 c2 (by omega) hN)
      have HZ2 := Lib.hid z2
      clear hE z2 I HPART
      obtain ⟨F, hF⟩ : ∃ F, rot d s m E = F := ⟨_, rfl⟩
      rw [hF] at HCROSS HLEFT HRIGHT HPM HNONE HROT
      have HVF : RowKit.Hid (∀ f, Pm a b d f → ∀ i, i < N → 0 ≤ f i ∧ f i < N) := Lib.hid (fun f hpf i hi => (hpf.mono (Nat.zero_le a) hb).all (fun x => 0 ≤ x ∧ x < N) (fun j _ hj => HV.out j hj) i (Nat.zero_le _) hi)
      clear hF
      by_cases hP : s < m
      · by_cases hQ : s < M
        · by_cases hA : a < s
          · by_cases hB : E < b
            · have p0 : (s : Int) < (m : Int) := by omega
              have p1 : (m : Int) < (E : Int) := by have := HZ2.out; omega
              have p2 : (a : Int) < (s : Int) := by omega
              have p3 : (s : Int) < (M : Int) := by omega
              have p4 : (M : Int) < (E : Int) := by have := HZ2.out; omega
              have p5 : (E : Int) < (b : Int) := by omega
              have hme : m < E := by have := HZ2.out; omega
              have HR2 := Lib.hid (HROT.out hP hme)
              clear HROT
              go_wp2_with fail
              refine HR2.out.mono ?_
              rintro en w2 ⟨rfl, k2⟩
              have K2 := Lib.hid k2
              clear k2 HR2
              have HI1 := Lib.hid (IH.out F a s M w2 (by omega) K2.out hA hQ (by omega) (HVF.out F HPM.out) HLEFT.out.1 HLEFT.out.2.1 HLEFT.out.2.2)
              go_wp2_with fail
              refine HI1.out.mono ?_
              rintro en w3 ⟨rfl, F2, x1, x2, x3⟩
              have X1 := Lib.hid x1; have X2 := Lib.hid x2; have K3 := Lib.hid x3
              clear x1 x2 x3 HI1
              have hME : M < E := by have := HZ2.out; omega
              have HI2 := Lib.hid (IH.out F2 M E b w3 (by omega) K3.out hME hB hb (HVF.out F2 (HPM.out.trans (X1.out.mono (Nat.le_refl _) (by omega)))) (HRIGHT.out.1.congr (fun k c1 c2 => X1.out.out k (by omega))) (HRIGHT.out.2.1.congr (fun k c1 c2 => X1.out.out k (by omega))) (HRIGHT.out.2.2.congr (fun k c1 c2 => X1.out.out k (by omega))))
              go_wp2_with fail
              refine HI2.out.mono ?_
              rintro en w4 ⟨rfl, F3, y1, y2, y3⟩
              have HEND : RowKit.Hid (∃ d', Pm a b d d' ∧ Srt r d' a b ∧ St w0 blk N d' w4) := Lib.hid (by
                obtain ⟨n1, n2⟩ := fin_ HPM.out HCROSS.out ⟨by omega, by omega⟩ X1.out X2.out y1 y2
                exact ⟨F3, n1, n2, y3⟩)
              clear y1 y2 y3 HI2
              go_wp2
              all_goals go_end0
              all_goals exact ⟨rfl, HEND.out⟩
            · have p0 : (s : Int) < (m : Int) := by omega
              have p1 : (m : Int) < (E : Int) := by have := HZ2.out; omega
              have p2 : (a : Int) < (s : Int) := by omega
              have p3 : (s : Int) < (M : Int) := by omega
              have p4 : (M : Int) < (E : Int) := by have := HZ2.out; omega
              have p5 : decide ((E : Int) < (b : Int)) = false := decide_eq_false (by omega)
              have hme : m < E := by have := HZ2.out; omega
              have HR2 := Lib.hid (HROT.out hP hme)
              clear HROT
              go_wp2_with fail
              refine HR2.out.mono ?_
              rintro en w2 ⟨rfl, k2⟩
              have K2 := Lib.hid k2
              clear k2 HR2
              have HI1 := Lib.hid (IH.out F a s M w2 (by omega) K2.out hA hQ (by omega) (HVF.out F HPM.out) HLEFT.out.1 HLEFT.out.2.1 HLEFT.out.2.2)
              go_wp2_with fail
              refine HI1.out.mono ?_
              rintro en w3 ⟨rfl, F2, x1, x2, x3⟩
              have X1 := Lib.hid x1; have X2 := Lib.hid x2; have K3 := Lib.hid x3
              clear x1 x2 x3 HI1
              have HEND : RowKit.Hid (∃ d', Pm a b d d' ∧ Srt r d' a b ∧ St w0 blk N d' w3) := Lib.hid (by
                have e : E = b := by have := HZ2.out; omega
                have h3 : Srt r F2 M b := (Srt.congr (by have := HRIGHT.out.2.1; rw [e] at this; exact this) (fun k c1 c2 => X1.out.out k (by omega)))
                obtain ⟨n1, n2⟩ := fin_ HPM.out HCROSS.out ⟨by omega, by omega⟩ X1.out X2.out (Pm.refl _) h3
                exact ⟨F2, n1, n2, K3.out⟩)
              go_wp2
              all_goals go_end0
              all_goals exact ⟨rfl, HEND.out⟩
          · by_cases hB : E < b
            · have p0 : (s : Int) < (m : Int) := by omega
              have p1 : (m : Int) < (E : Int) := by have := HZ2.out; omega
              have p2 : decide ((a : Int) < (s : Int)) = false := decide_eq_false (by omega)
              have p3 : (s : Int) < (M : Int) := by omega
              have p4 : (M : Int) < (E : Int) := by have := HZ2.out; omega
              have p5 : (E : Int) < (b : Int) := by omega
              have hme : m < E := by have := HZ2.out; omega
              have HR2 := Lib.hid (HROT.out hP hme)
              clear HROT
              go_wp2_with fail
              refine HR2.out.mono ?_
              rintro en w2 ⟨rfl, k2⟩
              have K2 := Lib.hid k2
              clear k2 HR2
              have e9 : a = s := by omega
              have X2 : RowKit.Hid (Srt r F a M) := Lib.hid (by rw [e9]; exact HLEFT.out.2.2)
              clear e9
              have X1 : RowKit.Hid (Pm a M F F) := Lib.hid (Pm.refl _)
              have K3 := K2
              have hME : M < E := by have := HZ2.out; omega
              have HI2 := Lib.hid (IH.out F M E b w2 (by omega) K3.out hME hB hb (HVF.out F (HPM.out.trans (X1.out.mono (Nat.le_refl _) (by omega)))) (HRIGHT.out.1.congr (fun k c1 c2 => X1.out.out k (by omega))) (HRIGHT.out.2.1.congr (fun k c1 c2 => X1.out.out k (by omega))) (HRIGHT.out.2.2.congr (fun k c1 c2 => X1.out.out k (by omega))))
              go_wp2_with fail
              refine HI2.out.mono ?_
              rintro en w4 ⟨rfl, F3, y1, y2, y3⟩
              have HEND : RowKit.Hid (∃ d', Pm a b d d' ∧ Srt r d' a b ∧ St w0 blk N d' w4) := Lib.hid (by
                obtain ⟨n1, n2⟩ := fin_ HPM.out HCROSS.out ⟨by omega, by omega⟩ X1.out X2.out y1 y2
                exact ⟨F3, n1, n2, y3⟩)
              clear y1 y2 y3 HI2
              go_wp2
              all_goals go_end0
              all_goals exact ⟨rfl, HEND.out⟩
            · have p0 : (s : Int) < (m : Int) := by omega
              have p1 : (m : Int) < (E : Int) := by have := HZ2.out; omega
              have p2 : decide ((a : Int) < (s : Int)) = false := decide_eq_false (by omega)
              have p3 : (s : Int) < (M : Int) := by omega
              have p4 : (M : Int) < (E : Int) := by have := HZ2.out; omega
              have p5 : decide ((E : Int) < (b : Int)) = false := decide_eq_false (by omega)
              have hme : m < E := by have := HZ2.out; omega
              have HR2 := Lib.hid (HROT.out hP hme)
              clear HROT
              go_wp2_with fail
              refine HR2.out.mono ?_
              rintro en w2 ⟨rfl, k2⟩
              have K2 := Lib.hid k2
              clear k2 HR2
              have e9 : a = s := by omega
              have X2 : RowKit.Hid (Srt r F a M) := Lib.hid (by rw [e9]; exact HLEFT.out.2.2)
              clear e9
              have X1 : RowKit.Hid (Pm a M F F) := Lib.hid (Pm.refl _)
              have K3 := K2
              have HEND : RowKit.Hid (∃ d', Pm a b d d' ∧ Srt r d' a b ∧ St w0 blk N d' w2) := Lib.hid (by
                have e : E = b := by have := HZ2.out; omega
                have h3 : Srt r F M b := (Srt.congr (by have := HRIGHT.out.2.1; rw [e] at this; exact this) (fun k c1 c2 => X1.out.out k (by omega)))
                obtain ⟨n1, n2⟩ := fin_ HPM.out HCROSS.out ⟨by omega, by omega⟩ X1.out X2.out (Pm.refl _) h3
                exact ⟨F, n1, n2, K3.out⟩)
              go_wp2
              all_goals go_end0
              all_goals exact ⟨rfl, HEND.out⟩
        · by_cases hA : a < s
          · by_cases hB : E < b
            · exfalso
              omega
            · exfalso
              omega
          · by_cases hB : E < b
            · exfalso
              omega
            · exfalso
              omega
      · by_cases hQ : s < M
        · by_cases hA : a < s
          · by_cases hB : E < b
            · have p0 : decide ((s : Int) < (m : Int)) = false := decide_eq_false (by omega)
              have p1 : (m : Int) < (E : Int) := by have := HZ2.out; omega
              have p2 : (a : Int) < (s : Int) := by omega
              have p3 : (s : Int) < (M : Int) := by omega
              have p4 : decide ((M : Int) < (E : Int)) = false := decide_eq_false (by have := HZ2.out; omega)
              have p5 : (E : Int) < (b : Int) := by omega
              have hdf : F = d := HNONE.out (.inl (by omega))
              have K2 : RowKit.Hid (St w0 blk N F wr) := Lib.hid (by rw [hdf]; exact HS.out)
              have HDF := Lib.hid hdf
              clear hdf HROT
              have HI1 := Lib.hid (IH.out F a s M wr (by omega) K2.out hA hQ (by omega) (HVF.out F HPM.out) HLEFT.out.1 HLEFT.out.2.1 HLEFT.out.2.2)
              go_wp2_with fail
              refine HI1.out.mono ?_
              rintro en w3 ⟨rfl, F2, x1, x2, x3⟩
              have X1 := Lib.hid x1; have X2 := Lib.hid x2; have K3 := Lib.hid x3
              clear x1 x2 x3 HI1
              have HEND : RowKit.Hid (∃ d', Pm a b d d' ∧ Srt r d' a b ∧ St w0 blk N d' w3) := Lib.hid (by
                have e : E = M := by have := HZ2.out; omega
                have h3 : Srt r F2 M b := (Srt.congr (by have := HRIGHT.out.2.2; rw [e] at this; exact this) (fun k c1 c2 => X1.out.out k (by omega)))
                obtain ⟨n1, n2⟩ := fin_ HPM.out HCROSS.out ⟨by omega, by omega⟩ X1.out X2.out (Pm.refl _) h3
                exact ⟨F2, n1, n2, K3.out⟩)
              go_wp2
              all_goals go_end0
              all_goals exact ⟨rfl, HEND.out⟩
            · have p0 : decide ((s : Int) < (m : Int)) = false := decide_eq_false (by omega)
              have p1 : (m : Int) < (E : Int) := by have := HZ2.out; omega
              have p2 : (a : Int) < (s : Int) := by omega
              have p3 : (s : Int) < (M : Int) := by omega
              have p4 : decide ((M : Int) < (E : Int)) = false := decide_eq_false (by have := HZ2.out; omega)
              have p5 : decide ((E : Int) < (b : Int)) = false := decide_eq_false (by omega)
              have hdf : F = d := HNONE.out (.inl (by omega))
              have K2 : RowKit.Hid (St w0 blk N F wr) := Lib.hid (by rw [hdf]; exact HS.out)
              have HDF := Lib.hid hdf
              clear hdf HROT
              have HI1 := Lib.hid (IH.out F a s M wr (by omega) K2.out hA hQ (by omega) (HVF.out F HPM.out) HLEFT.out.1 HLEFT.out.2.1 HLEFT.out.2.2)
              go_wp2_with fail
              refine HI1.out.mono ?_
              rintro en w3 ⟨rfl, F2, x1, x2, x3⟩
              have X1 := Lib.hid x1; have X2 := Lib.hid x2; have K3 := Lib.hid x3
              clear x1 x2 x3 HI1
              have HEND : RowKit.Hid (∃ d', Pm a b d d' ∧ Srt r d' a b ∧ St w0 blk N d' w3) := Lib.hid (by
                have e : E = M := by have := HZ2.out; omega
                have h3 : Srt r F2 M b := (Srt.congr (by have := HRIGHT.out.2.2; rw [e] at this; exact this) (fun k c1 c2 => X1.out.out k (by omega)))
                obtain ⟨n1, n2⟩ := fin_ HPM.out HCROSS.out ⟨by omega, by omega⟩ X1.out X2.out (Pm.refl _) h3
                exact ⟨F2, n1, n2, K3.out⟩)
              go_wp2
              all_goals go_end0
              all_goals exact ⟨rfl, HEND.out⟩
          · by_cases hB : E < b
            · have p0 : decide ((s : Int) < (m : Int)) = false := decide_eq_false (by omega)
              have p1 : (m : Int) < (E : Int) := by have := HZ2.out; omega
              have p2 : decide ((a : Int) < (s : Int)) = false := decide_eq_false (by omega)
              have p3 : (s : Int) < (M : Int) := by omega
              have p4 : decide ((M : Int) < (E : Int)) = false := decide_eq_false (by have := HZ2.out; omega)
              have p5 : (E : Int) < (b : Int) := by omega
              have hdf : F = d := HNONE.out (.inl (by omega))
              have K2 : RowKit.Hid (St w0 blk N F wr) := Lib.hid (by rw [hdf]; exact HS.out)
              have HDF := Lib.hid hdf
              clear hdf HROT
              have e9 : a = s := by omega
              have X2 : RowKit.Hid (Srt r F a M) := Lib.hid (by rw [e9]; exact HLEFT.out.2.2)
              clear e9
              have X1 : RowKit.Hid (Pm a M F F) := Lib.hid (Pm.refl _)
              have K3 := K2
              have HEND : RowKit.Hid (∃ d', Pm a b d d' ∧ Srt r d' a b ∧ St w0 blk N d' wr) := Lib.hid (by
                have e : E = M := by have := HZ2.out; omega
                have h3 : Srt r F M b := (Srt.congr (by have := HRIGHT.out.2.2; rw [e] at this; exact this) (fun k c1 c2 => X1.out.out k (by omega)))
                obtain ⟨n1, n2⟩ := fin_ HPM.out HCROSS.out ⟨by omega, by omega⟩ X1.out X2.out (Pm.refl _) h3
                exact ⟨F, n1, n2, K3.out⟩)
              go_wp2
              all_goals go_end0
              all_goals exact ⟨rfl, HEND.out⟩
            · have p0 : decide ((s : Int) < (m : Int)) = false := decide_eq_false (by omega)
              have p1 : (m : Int) < (E : Int) := by have := HZ2.out; omega
              have p2 : decide ((a : Int) < (s : Int)) = false := decide_eq_false (by omega)
              have p3 : (s : Int) < (M : Int) := by omega
              have p4 : decide ((M : Int) < (E : Int)) = false := decide_eq_false (by have := HZ2.out; omega)
              have p5 : decide ((E : Int) < (b : Int)) = false := decide_eq_false (by omega)
              have hdf : F = d := HNONE.out (.inl (by omega))
              have K2 : RowKit.Hid (St w0 blk N F wr) := Lib.hid (by rw [hdf]; exact HS.out)
              have HDF := Lib.hid hdf
              clear hdf HROT
              have e9 : a = s := by omega
              have X2 : RowKit.Hid (Srt r F a M) := Lib.hid (by rw [e9]; exact HLEFT.out.2.2)
              clear e9
              have X1 : RowKit.Hid (Pm a M F F) := Lib.hid (Pm.refl _)
              have K3 := K2
              have HEND : RowKit.Hid (∃ d', Pm a b d d' ∧ Srt r d' a b ∧ St w0 blk N d' wr) := Lib.hid (by
                have e : E = M := by have := HZ2.out; omega
                have h3 : Srt r F M b := (Srt.congr (by have := HRIGHT.out.2.2; rw [e] at this; exact this) (fun k c1 c2 => X1.out.out k (by omega)))
                obtain ⟨n1, n2⟩ := fin_ HPM.out HCROSS.out ⟨by omega, by omega⟩ X1.out X2.out (Pm.refl _) h3
                exact ⟨F, n1, n2, K3.out⟩)
              go_wp2
              all_goals go_end0
              all_goals exact ⟨rfl, HEND.out⟩
        · by_cases hA : a < s
          · by_cases hB : E < b
            · have p0 : decide ((s : Int) < (m : Int)) = false := decide_eq_false (by omega)
              have p1 : decide ((m : Int) < (E : Int)) = false := decide_eq_false (by have := HZ2.out; omega)
              have p2 : (a : Int) < (s : Int) := by omega
              have p3 : decide ((s : Int) < (M : Int)) = false := decide_eq_false (by omega)
              have p4 : decide ((M : Int) < (E : Int)) = false := decide_eq_false (by have := HZ2.out; omega)
              have p5 : (E : Int) < (b : Int) := by omega
              have hdf : F = d := HNONE.out (.inl (by omega))
              have K2 : RowKit.Hid (St w0 blk N F wr) := Lib.hid (by rw [hdf]; exact HS.out)
              have HDF := Lib.hid hdf
              clear hdf HROT
              have e9 : M = s := by omega
              have X2 : RowKit.Hid (Srt r F a M) := Lib.hid (by rw [e9]; exact HLEFT.out.2.1)
              clear e9
              have X1 : RowKit.Hid (Pm a M F F) := Lib.hid (Pm.refl _)
              have K3 := K2
              have HEND : RowKit.Hid (∃ d', Pm a b d d' ∧ Srt r d' a b ∧ St w0 blk N d' wr) := Lib.hid (by
                have e : E = M := by have := HZ2.out; omega
                have h3 : Srt r F M b := (Srt.congr (by have := HRIGHT.out.2.2; rw [e] at this; exact this) (fun k c1 c2 => X1.out.out k (by omega)))
                obtain ⟨n1, n2⟩ := fin_ HPM.out HCROSS.out ⟨by omega, by omega⟩ X1.out X2.out (Pm.refl _) h3
                exact ⟨F, n1, n2, K3.out⟩)
              go_wp2
              all_goals go_end0
              all_goals exact ⟨rfl, HEND.out⟩
            · have p0 : decide ((s : Int) < (m : Int)) = false := decide_eq_false (by omega)
              have p1 : decide ((m : Int) < (E : Int)) = false := decide_eq_false (by have := HZ2.out; omega)
              have p2 : (a : Int) < (s : Int) := by omega
              have p3 : decide ((s : Int) < (M : Int)) = false := decide_eq_false (by omega)
              have p4 : decide ((M : Int) < (E : Int)) = false := decide_eq_false (by have := HZ2.out; omega)
              have p5 : decide ((E : Int) < (b : Int)) = false := decide_eq_false (by omega)
              have hdf : F = d := HNONE.out (.inl (by omega))
              have K2 : RowKit.Hid (St w0 blk N F wr) := Lib.hid (by rw [hdf]; exact HS.out)
              have HDF := Lib.hid hdf
              clear hdf HROT
              have e9 : M = s := by omega
              have X2 : RowKit.Hid (Srt r F a M) := Lib.hid (by rw [e9]; exact HLEFT.out.2.1)
              clear e9
              have X1 : RowKit.Hid (Pm a M F F) := Lib.hid (Pm.refl _)
              have K3 := K2
              have HEND : RowKit.Hid (∃ d', Pm a b d d' ∧ Srt r d' a b ∧ St w0 blk N d' wr) := Lib.hid (by
                have e : E = M := by have := HZ2.out; omega
                have h3 : Srt r F M b := (Srt.congr (by have := HRIGHT.out.2.2; rw [e] at this; exact this) (fun k c1 c2 => X1.out.out k (by omega)))
                obtain ⟨n1, n2⟩ := fin_ HPM.out HCROSS.out ⟨by omega, by omega⟩ X1.out X2.out (Pm.refl _) h3
                exact ⟨F, n1, n2, K3.out⟩)
              go_wp2
              all_goals go_end0
              all_goals exact ⟨rfl, HEND.out⟩
          · by_cases hB : E < b
            · exfalso
              omega
            · exfalso
              omega
end Stb
end Go.Proofs.Ytblbhkcnmkcdfaa
