/- Passes: plain law: a renewal's days. -/
import Derived.Test.YtdacnefklcmckaaPassRef3
set_option linter.unusedSimpArgs false
set_option linter.unusedVariables false
namespace Go.Proofs.Ytdacnefklcmckaa
open Go.RowKit
namespace Pa
open Dt Sn
theorem has_end {l : List Sp} (hc : Canon l) {n : Int} (h : has l n = true) : n < endD l := by
  unfold has at h
  obtain ⟨s, hs, hi⟩ := List.any_eq_true.1 h
  have h0 : 0 < l.length := List.length_pos_of_mem hs
  have h1 := canon_last hc (by omega) s hs
  unfold endD
  rw [dif_pos h0]
  simp at hi
  omega
theorem endD_le {l : List Sp} (hi : inS3 l) : 0 ≤ endD l ∨ 0 < l.length := by
  unfold endD
  by_cases h : 0 < l.length
  · exact .inr h
  · rw [dif_neg h]; exact .inl (Int.le_refl _)
theorem ren_days {l : List Sp} {F T : Int} (hl : chkS l = 0) (he : endD l ≤ F) (hFT : F < T) (h1 : 1 ≤ F) (hT : T ≤ 3652059) (hb : bothE 0 l [(F, T)] = 0) :
    days (bothR 0 l [(F, T)]) = days l + (T - F) := by
  obtain ⟨k1, k2, k3⟩ := both_ok hb
  have hs : chkS [(F, T)] = 0 := (both_parts hb).2.1
  have hd : days [(F, T)] = T - F := by simp [days]
  have e1 := days_cntN k1
  have e2 := days_cntN hl
  have e3 := days_cntN hs
  obtain ⟨K, hK⟩ : ∃ K : Nat, 2199023255552 = K := ⟨_, rfl⟩
  rw [hK] at e1 e2 e3
  clear hK
  have h4 := cntR_or (has l) (has [(F, T)]) (has (bothR 0 l [(F, T)])) (fun _ => false) (-1099511627776) (fun n => by rw [k3]; simp [opB]) (fun n => by
    cases ha : has l n with
    | false => rfl
    | true =>
      have := has_end ((chkS_ok l).1 hl).2.2 ha
      have hf : has [(F, T)] n = false := by
        unfold has
        simp
        omega
      rw [hf]; rfl) K
  rw [cntR_none _ _ (fun _ => rfl)] at h4
  rw [← hd, e1, e2, e3]
  omega
theorem ren_eq (p : Ps) (l : List Sp) (n u N : Int) : renF p l n u N = renG p l n u N := by
  unfold renF renG
  by_cases c1 : passE p l = 0
  · rw [if_pos c1, if_pos c1]
    cases hD : isD n with
    | false => rfl
    | true =>
      rw [if_neg (show ¬ (true = false) by decide), if_neg (show ¬ (true = false) by decide)]
      by_cases c2 : (nthF u N (frm l n) 1).2 = 0
      · rw [if_pos c2, if_pos c2]
        by_cases c3 : bothE 0 l (oneL (frm l n) u N) = 0
        · rw [if_pos c3, if_pos c3]
          unfold withF
          by_cases c4 : passE p (bothR 0 l (oneL (frm l n) u N)) = 0
          · rw [if_pos c4, if_pos c4]
            have hL : oneL (frm l n) u N = [(frm l n, (nthF u N (frm l n) 1).1)] := by unfold oneL; rw [if_pos c2]
            have hT : nthF u N (frm l n) 1 = ((nthF u N (frm l n) 1).1, 0) := by rw [← c2]
            obtain ⟨b1, b2, b3⟩ := nth_one hT
            obtain ⟨_, hk, _⟩ := passE_ok.1 c1
            rw [hL] at c3 ⊢
            have hd := ren_days hk (by unfold frm; omega) b2 b1 b3 c3
            obtain ⟨k1, _, _⟩ := both_ok c3
            unfold sizeN
            rw [if_pos k1, if_pos hk, hd]
            have : max (days l + ((nthF u N (frm l n) 1).1 - frm l n) - days l) (days l - (days l + ((nthF u N (frm l n) 1).1 - frm l n))) = (nthF u N (frm l n) 1).1 - frm l n := by omega
            rw [this]
          · rw [if_neg c4, if_neg c4]
        · rw [if_neg c3, if_neg c3]
      · rw [if_neg c2, if_neg c2]
  · rw [if_neg c1, if_neg c1]
end Pa
end Go.Proofs.Ytdacnefklcmckaa
