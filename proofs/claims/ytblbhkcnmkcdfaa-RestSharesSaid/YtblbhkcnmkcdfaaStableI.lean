/- The library's stable sort at ints: insertion, a middle piece turned about. -/
import Derived.Test.YtblbhkcnmkcdfaaStableW
import Derived.BigQuiet
import Derived.Deep.QuietTactic
set_option linter.unusedSimpArgs false
set_option linter.unusedVariables false
namespace Go.Proofs.Ytblbhkcnmkcdfaa
open Go.RowKit
theorem qe {P : Program} {f : FuncId} {args : Array Value} {w : World} {a n : Nat} {v : Value}
    (h : Calls P f args (w.drewN (a + n)) fun e w' => e = .returned v ∧ ∃ m, w' = (w.drewN (a + n)).drewN m) : Calls P f args (w.drewN (a + n)) fun e w'' => e = .returned v ∧ ∃ m, w'' = w.drewN (a + m) :=
  h.mono fun _ _ ⟨he, m, hm⟩ => ⟨he, n + m, by rw [hm, World.drewN_drewN, Nat.add_assoc]⟩
theorem qf {P : Program} {f : FuncId} {args : Array Value} {w : World} {n : Nat} {v : Value}
    (h : Calls P f args (w.drewN n) fun e w' => e = .returned v ∧ ∃ m, w' = (w.drewN n).drewN m) : Calls P f args (w.drewN n) fun e w'' => e = .returned v ∧ ∃ m, w'' = w.drewN m :=
  h.mono fun _ _ ⟨he, m, hm⟩ => ⟨he, n + m, by rw [hm, World.drewN_drewN]⟩
namespace Stb
/-- what the comparison answers -/
structure Cmp (w0 : World) (blk N bc : Nat) (K : Int → Int → Int) : Prop where
  run : ∀ (x y : Int) (w : World), 0 ≤ x → x < N → 0 ≤ y → y < N → KeptB [blk] w0 w → Calls Try.prog 22 #[.int .i64 x, .int .i64 y, .pointer (some ⟨bc, 0, none⟩)] w fun e w' => e = .returned (.int .i64 (K x y)) ∧ ∃ m, w' = w.drewN m
structure SortQ (w0 : World) (blk N : Nat) (r : Int → Int → Prop) (d : Arr) (a b : Nat) (e : Ending) (w' : World) : Prop where
  ret : e = .returned (.tuple #[])
  is : ∃ d', Pm a b d d' ∧ Srt r d' a b ∧ St w0 blk N d' w'
theorem Insd.out {r : Int → Int → Prop} {d : Arr} {a i : Nat} (h : Srt r d a (i + 1)) : Srt r d a (i + 1) := h
set_option maxRecDepth 100000 in
set_option maxHeartbeats 4000000 in
theorem ins_any (w0 : World) (blk N cap bc : Nat) (K : Int → Int → Int) (hc : Cmp w0 blk N bc K) (r : Int → Int → Prop) (ho : Ord r) (d : Arr) (a b : Nat) (w : World) (h : St w0 blk N d w) (hab : a ≤ b) (hb : b ≤ N) (hN : N ≤ 1000)
    (hv : ∀ i, i < N → 0 ≤ d i ∧ d i < N) (hf : ∀ i j, a ≤ i → i < j → j < b → Fit K r (d j) (d i)) :
    Calls Try.prog 31 #[.slice (some ⟨blk, 0, none⟩) N cap, .int .i64 a, .int .i64 b, fv bc] w (SortQ w0 blk N r d a b) := by
  have H0 := Lib.hid h; have HC := Lib.hid hc; have HF := Lib.hid hf; have HO := Lib.hid ho; have HV := Lib.hid hv
  have w1 : IntKind.i64.wrap ((a : Int) + 1) = (a : Int) + 1 := IntWalk.i64_in _ (by omega)
  clear h hc hf ho hv
  go_enter Try.func31, Try.ntmps31
  go_wp2
  go_loopw [8] (fun i wr => ∃ (k : Nat) (e : Arr), a + 1 ≤ k ∧ (k ≤ b ∨ k = a + 1) ∧ i = .int .i64 k ∧ Pm a k d e ∧ (k = a + 1 → e = d) ∧ Srt r e a k ∧ St w0 blk N e wr) (fun i _ => b - (intOf i).toNat)
  case atStart => exact ⟨a + 1, d, Nat.le_refl _, .inr rfl, by go_num, Pm.refl _, fun _ => rfl, Srt.one (Nat.le_refl _), H0.out⟩
  case round =>
    obtain ⟨k, e, hk1, hk2, rfl, hpm, he, hsr, hst⟩ := hrel
    by_cases hlt : k < b
    · have i1 : (k : Int) < (b : Int) := by omega
      have HPM := Lib.hid hpm; have HSR := Lib.hid hsr; have HST := Lib.hid hst
      have hek : e k = d k := hpm.out k (by omega)
      have HP0 : RowKit.Hid (∀ p, a ≤ p → p < k → Fit K r (d k) (e p)) := Lib.hid (fun p g1 g2 => hpm.all (fun x => Fit K r (d k) x) (fun i c1 c2 => HF.out i k c1 c2 hlt) p g1 g2)
      have HEK := Lib.hid hek
      have HDK : RowKit.Hid (0 ≤ d k ∧ d k < N) := Lib.hid (HV.out k (by omega))
      have HVE : RowKit.Hid (∀ f, Pm a (k + 1) d f → ∀ i, i < N → 0 ≤ f i ∧ f i < N) := Lib.hid (fun f hpf i hi => (hpf.mono (Nat.zero_le a) (show k + 1 ≤ N by omega)).all (fun x => 0 ≤ x ∧ x < N) (fun j _ hj => HV.out j hj) i (Nat.zero_le _) hi)
      clear hpm he hsr hst hek hk2
      obtain ⟨x, hx⟩ : ∃ x, d k = x := ⟨_, rfl⟩
      rw [hx] at HP0 HEK HDK
      clear hx
      go_wp2
      go_loopw [9] (fun jv wr => ∃ (j : Nat) (f : Arr), a ≤ j ∧ j ≤ k ∧ jv = .int .i64 j ∧ Pm a (k + 1) d f ∧ f j = x ∧ (∀ p, a ≤ p → p ≤ k → p ≠ j → Fit K r x (f p)) ∧ Insd r f a k j ∧ St w0 blk N f wr) (fun jv _ => (intOf jv).toNat)
      case atStart => exact ⟨k, e, by omega, Nat.le_refl _, rfl, HPM.out.mono (Nat.le_refl _) (by omega), HEK.out, fun p g1 g2 g3 => HP0.out p g1 (by omega), Insd.start HSR.out, HST.out⟩
      case round =>
        obtain ⟨j, f, hj1, hj2, rfl, hpf, hfj, hfit, hins, hs⟩ := hrel
        have HPF := Lib.hid hpf; have HFJ := Lib.hid hfj; have HFIT := Lib.hid hfit; have HINS := Lib.hid hins; have HS := Lib.hid hs
        by_cases hja : a < j
        · have q0 := hs.at_.cell j (by omega)
          have q1 := hs.at_.cell (j - 1) (by omega)
          have f0 := hs.at_.froz j (by omega)
          have f1 := hs.at_.froz (j - 1) (by omega)
          rw [hfj] at q0
          have v1 := HVE.out f hpf (j - 1) (by omega)
          have hfy := hfit (j - 1) (by omega) (by omega) (by omega)
          have HE := Lib.hid (hs.swp' j (j - 1) (by omega) (by omega) (by omega))
          rw [hfj] at HE
          clear hpf hfj hfit hins hs
          obtain ⟨y, hy⟩ : ∃ y, f (j - 1) = y := ⟨_, rfl⟩
          rw [hy] at q1 v1 hfy HE
          have HFY := Lib.hid hfy; have HY := Lib.hid hy; have HV1 := Lib.hid v1
          clear hfy hy v1
          have CQ : RowKit.Hid (∀ n, Calls Try.prog 22 #[.int .i64 x, .int .i64 y, .pointer (some ⟨bc, 0, none⟩)] (wr.drewN n) fun e w' => e = .returned (.int .i64 (K x y)) ∧ ∃ m, w' = (wr.drewN n).drewN m) :=
            Lib.hid (fun n => HC.out.run x y _ HDK.out.1 HDK.out.2 HV1.out.1 HV1.out.2 (HS.out.kept.drewN n))
          obtain ⟨z, hz⟩ : ∃ z, K x y = z := ⟨_, rfl⟩
          rw [hz] at CQ
          have HZ := Lib.hid hz
          clear hz
          have a0 : (j : Int) > (a : Int) := by omega
          have a1 : (0 : Int) ≤ (j : Int) := by omega
          have a2 : (j : Int) < (N : Int) := by omega
          have a3 : IntKind.i64.wrap ((j : Int) - 1) = (j : Int) - 1 := IntWalk.i64_in _ (by omega)
          have a4 : (0 : Int) ≤ (j : Int) - 1 := by omega
          have a5 : (j : Int) - 1 < (N : Int) := by omega
          have a6 : ((j : Int) - 1).toNat = j - 1 := by omega
          have a7 : j ≠ j - 1 := by omega
          by_cases hzl : z < 0
          · go_wp2_with fail
            go_quiet ((go_at_call 22; first | exact qf (CQ.out _) | exact qe (CQ.out _)))
            have hs2 := HS.out.drewN nq
            clear q0 q1 f0 f1 HE CQ
            generalize wr.drewN nq = wq at *
            have q0 := hs2.at_.cell j (by omega)
            have q1 := hs2.at_.cell (j - 1) (by omega)
            have f0 := hs2.at_.froz j (by omega)
            have f1 := hs2.at_.froz (j - 1) (by omega)
            rw [HFJ.out] at q0; rw [HY.out] at q1
            have HE := Lib.hid (hs2.swp' j (j - 1) (by omega) (by omega) (by omega))
            rw [HFJ.out, HY.out] at HE
            have hr : r (f j) (f (j - 1)) := by rw [HFJ.out, HY.out]; exact HFY.out.1 (by rw [HZ.out]; exact hzl)
            have HI2 := Lib.hid (HINS.out.step hja hj2 hr)
            have HP2 := Lib.hid (Pm.step j (j - 1) HPF.out (by omega) (by omega) (by omega) (by omega))
            have HF2 : RowKit.Hid (∀ p, a ≤ p → p ≤ k → p ≠ j - 1 → Fit K r x (swp f j (j - 1) p)) := Lib.hid (fun p g1 g2 g3 => by
              unfold swp
              by_cases c : p = j
              · rw [if_pos c]; exact HFIT.out _ (by omega) (by omega) (by omega)
              · rw [if_neg c, if_neg g3]; exact HFIT.out _ g1 g2 c)
            have HX2 : RowKit.Hid (swp f j (j - 1) (j - 1) = x) := Lib.hid (by unfold swp; rw [if_neg (by omega), if_pos rfl]; exact HFJ.out)
            have HJ1 : RowKit.Hid ((j : Int) - 1 = ((j - 1 : Nat) : Int)) := Lib.hid (by omega)
            clear hs2 hr
            go_wp2_with fail
            go_region
            go_wp2
            go_roundw
            case rel => exact ⟨j - 1, _, by omega, by omega, by rw [HJ1.out], HP2.out, HX2.out, HF2.out, HI2.out, HE.out.drew⟩
            case measure => simp [intOf]; omega
          · go_wp2_with fail
            go_quiet ((go_at_call 22; first | exact qf (CQ.out _) | exact qe (CQ.out _)))
            have hr : r (f (j - 1)) (f j) := by rw [HFJ.out, HY.out]; exact HFY.out.2 (by rw [HZ.out]; omega)
            have HD2 := Lib.hid (HINS.out.done HO.out hj1 hj2 (.inr hr))
            have HS2 := Lib.hid (HS.out.drewN nq)
            clear hr q0 q1 f0 f1 HE CQ
            go_wp2
            go_roundw
            case rel => exact ⟨k + 1, f, by omega, .inl (by omega), by go_num, HPF.out, fun h => by omega, HD2.out, HS2.out⟩
            case measure => simp [intOf]; omega
        · have ej : j = a := by omega
          have hd : decide ((j : Int) > (a : Int)) = false := decide_eq_false (by omega)
          have hd2 : decide ((a : Int) < (j : Int)) = false := decide_eq_false (by omega)
          clear hpf hfj hfit hins hs
          go_wp2_with fail
          go_quiet (fail)
          have HD2 := Lib.hid (HINS.out.done HO.out hj1 hj2 (.inl ej))
          have HS2 := Lib.hid (HS.out.drewN nq)
          go_wp2
          go_roundw
          case rel => exact ⟨k + 1, f, by omega, .inl (by omega), by go_num, HPF.out, fun h => by omega, HD2.out, HS2.out⟩
          case measure => simp [intOf]; omega
    · have HEND : RowKit.Hid (∃ d', Pm a b d d' ∧ Srt r d' a b ∧ St w0 blk N d' wr) := Lib.hid (by
        by_cases c : k = a + 1
        · have := he c
          subst this
          exact ⟨e, Pm.refl _, Srt.one (by omega), hst⟩
        · have : k = b := by omega
          subst this
          exact ⟨e, hpm, hsr, hst⟩)
      clear hpm hsr hst
      go_wp2
      go_end0
      exact ⟨rfl, HEND.out⟩
end Stb
end Go.Proofs.Ytblbhkcnmkcdfaa
