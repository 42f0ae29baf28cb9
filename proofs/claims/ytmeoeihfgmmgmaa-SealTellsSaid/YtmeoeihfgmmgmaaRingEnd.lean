/- The law on sealing and opening again: all cases. -/
import Derived.Test.YtmeoeihfgmmgmaaRingLaws
import Derived.Test.YtmeoeihfgmmgmaaOpenR
set_option linter.unusedVariables false
namespace Go.Proofs.Ytmeoeihfgmmgmaa
open Go.RowKit
namespace Rg
open Tg
theorem drop_no {xs : List Ep} (hc : chk xs = 0) (i : Nat) (hi : i < xs.length) : atN xs[i].1 (xs.eraseIdx i) = (xs.eraseIdx i).length := by
  obtain ⟨_, _, hp⟩ := chk_spec hc
  refine atN_eq _ _ _ (Nat.le_refl _) (fun j hj _ => ?_) (fun h => absurd h (Nat.lt_irrefl _))
  rw [erase_at xs i j hi hj]
  have hl := List.length_eraseIdx_of_lt hi
  by_cases hji : j < i
  · have := List.pairwise_iff_getElem.1 hp j i (by omega) hi hji
    simp only [if_pos hji]; omega
  · have := List.pairwise_iff_getElem.1 hp i (j + 1) hi (by omega) (by omega)
    simp only [if_neg hji]; omega
theorem drop_keeps {xs : List Ep} (hc : chk xs = 0) (i k : Nat) (hi : i < xs.length) (hk : k < xs.length) (hne : i ≠ k) : ∃ j, ∃ h : j < (xs.eraseIdx i).length, (xs.eraseIdx i)[j] = xs[k] := by
  have hl := List.length_eraseIdx_of_lt hi
  by_cases h : k < i
  · exact ⟨k, by omega, by rw [erase_at xs i k hi (by omega)]; simp only [if_pos h]⟩
  · refine ⟨k - 1, by omega, ?_⟩
    rw [erase_at xs i (k - 1) hi (by omega)]
    simp only [if_neg (show ¬ k - 1 < i by omega)]
    congr 1; omega
theorem sback_end (v : Value) (xs : List Ep) (s : ByteArray) (k : W64 × W64) (no : Int) (w : World) (h : Rd 3 eE w v xs) (hs : s.size ≤ maxLen) (_ : True) (_ : (Lit.int .i64 no).wf = true) :
    Calls Try.prog 5 #[v, .string s, aK k.1 k.2, .int .i64 no] w fun e w' => e = .returned (.bool true) ∧ Below w.heap.size w w' := by
  have hss : s.size ≤ 9223372036854775807 := by unfold maxLen at hs; omega
  rcases seal_cases xs s with ⟨hc, hF⟩ | ⟨hc, hn, hF⟩ | ⟨n, hn, hc, hz, hF⟩ | ⟨n, hn, hc, hz, hF⟩
  · exact sback_bad v xs s k.1 k.2 no w h hss _ hc hF
  · exact sback_bad v xs s k.1 k.2 no w h hss _ (by decide) hF
  · exact sback_bad v xs s k.1 k.2 no w h hss _ (by decide) hF
  · obtain ⟨h8, hr, hp⟩ := chk_spec hc
    have hnl : n < xs.length := by omega
    have ho := open_sealed hc n hnl s hz
    have hts : (sealed xs[n] s).size ≤ 9223372036854775807 := by rw [sealed_size]; omega
    have c1 := seal_any v xs s hss
    rw [hF] at c1
    have c2 := open_any v xs _ hts
    rw [ho] at c2
    have c3 := add_any v xs k.1 k.2
    have c5 := drop_any v xs no
    refine sback_ok v xs s k.1 k.2 no w h n hn (by omega) (sealed xs[n] s) xs[n].1 rfl (Lib.hid c1) (Lib.hid c2) (addF xs (k.1, k.2)).1 (addF xs (k.1, k.2)).2 (Lib.hid c3) (Lib.hid ?_) (dropF xs no).1 (dropF xs no).2 (Lib.hid c5) ?_ (Lib.hid ?_) (Lib.hid ?_)
    · intro hg v' w' hv'
      rcases add_cases xs (k.1, k.2) with ⟨_, hA⟩ | ⟨_, _, _, hA⟩ | ⟨_, hl8, hne, hA⟩
      · contradiction
      · rw [hA] at hg; simp at hg
      · have hca := chk_add hc hl8 hne (k.1, k.2)
        have he : (xs ++ [(lastNo xs + 1, (k.1, k.2))])[n]'(by simp; omega) = xs[n] := List.getElem_append_left hnl
        have hoa := open_sealed hca n (by simp; omega) s hz
        rw [he] at hoa
        have := open_any v' _ _ hts w' hv'
        rw [hA] at this
        rw [hoa] at this
        exact this
    · intro hh
      rcases drop_cases xs no with ⟨_, hD⟩ | ⟨_, _, hD⟩ | ⟨_, _, _, hD⟩
      · rw [hD]
      · rw [hD]
      · rw [hD] at hh; exact absurd rfl hh
    · intro hh hno v' w' hv'
      rcases drop_cases xs no with ⟨_, hD⟩ | ⟨_, _, hD⟩ | ⟨_, _, hat, hD⟩
      · contradiction
      · rw [hD] at hh; simp at hh
      · have hatn : atN no xs = n := by rw [hno]; exact atN_self xs n hnl hp
        rw [hD, hatn] at hv'
        have hoa := open_lost (chk_erase hc n) xs[n] (hr _ (List.getElem_mem hnl)) s hz (drop_no hc n hnl)
        have := open_any v' _ _ hts w' hv'
        rw [hoa] at this
        exact this
    · intro hh hno v' w' hv'
      rcases drop_cases xs no with ⟨_, hD⟩ | ⟨_, _, hD⟩ | ⟨_, _, hat, hD⟩
      · contradiction
      · rw [hD] at hh; simp at hh
      · have hat2 := (atN_spec no xs).2 hat
        have hne : atN no xs ≠ n := fun e => hno (by rw [← hat2]; simp only [e])
        rw [hD] at hv'
        obtain ⟨j, hj, he⟩ := drop_keeps hc (atN no xs) n hat hnl hne
        have hoa := open_sealed (chk_erase hc (atN no xs)) j hj s hz
        rw [he] at hoa
        have := open_any v' _ _ hts w' hv'
        rw [hoa] at this
        exact this
end Rg
end Go.Proofs.Ytmeoeihfgmmgmaa
