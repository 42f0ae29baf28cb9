/- Rings: what is sealed opens as it was: plain facts. -/
import Derived.Test.YtmeoeihfgmmgmaaRingOpen
import Derived.Test.YtmeoeihfgmmgmaaRingDrop
set_option linter.unusedVariables false
namespace Go.Proofs.Ytmeoeihfgmmgmaa
namespace Rg
open Tg
theorem ba_ext {a b : ByteArray} (h : a.data.toList = b.data.toList) : a = b := by
  cases a; cases b; congr 1; exact Array.toList_inj.1 h
theorem leL_len (N : W64) : (leL N).length = 8 := rfl
theorem mark_size (a b : W64) (s : ByteArray) : (markB a b s).size = s.size + 8 := by
  unfold markB; rw [ByteArray.size_append]; rfl
theorem body_mark (a b : W64) (s : ByteArray) : bodyOf (markB a b s) = s := by
  unfold bodyOf
  rw [mark_size]
  apply ba_ext
  unfold markB
  simp [List.extract_eq_take_drop]
  exact List.take_of_length_le (by simp)
theorem one_size (n : Int) (s : ByteArray) : (oneB n ++ s).size = s.size + 1 := by
  unfold oneB; rw [ByteArray.size_append, Nat.add_comm]; rfl
theorem one_rest (n : Int) (s : ByteArray) (k : Nat) (hk : s.size + 1 ≤ k) : (oneB n ++ s).extract 1 k = s := by
  apply ba_ext
  unfold oneB
  simp [List.extract_eq_take_drop]
  rw [List.take_of_length_le]
  simp; omega
theorem first_one (a b : W64) (n : Int) (s : ByteArray) (h1 : 1 ≤ n) (h2 : n ≤ 255) : firstB (markB a b (oneB n ++ s)) = n := by
  unfold firstB markB oneB
  simp
  omega
theorem atN_self : ∀ (xs : List Ep) (k : Nat) (hk : k < xs.length), xs.Pairwise (fun x y => x.1 < y.1) → atN xs[k].1 xs = k := by
  intro xs k hk hp
  refine atN_eq _ xs k (by omega) (fun j hj hjk => ?_) (fun _ => rfl)
  have := List.pairwise_iff_getElem.1 hp j k hj hk hjk
  omega
theorem chk_spec {xs : List Ep} (h : chk xs = 0) : xs.length ≤ 8 ∧ (∀ x ∈ xs, 1 ≤ x.1 ∧ x.1 ≤ 255) ∧ xs.Pairwise (fun x y => x.1 < y.1) := by
  unfold chk at h
  by_cases g : 8 < xs.length
  · rw [if_pos g] at h; simp at h
  · rw [if_neg g] at h
    obtain ⟨g1, g2⟩ := chkR_spec xs 0 h
    exact ⟨by omega, fun x hx => ⟨(g1 x hx).1, (g1 x hx).2.1⟩, g2⟩
theorem chk_of {xs : List Ep} (h8 : xs.length ≤ 8) (h : ∀ x ∈ xs, 1 ≤ x.1 ∧ x.1 ≤ 255) (hp : xs.Pairwise (fun x y => x.1 < y.1)) : chk xs = 0 := by
  unfold chk
  rw [if_neg (by omega)]
  exact chkR_of xs 0 (fun x hx => by have := h x hx; omega) hp
theorem sealed_size (x : Ep) (s : ByteArray) : (sealed x s).size = s.size + 9 := by
  unfold sealed; rw [mark_size, one_size]
theorem open_sealed {xs : List Ep} (hc : chk xs = 0) (k : Nat) (hk : k < xs.length) (s : ByteArray) (hs : s.size ≤ 111) : openF xs (sealed xs[k] s) = (s, xs[k].1, 0) := by
  obtain ⟨h8, hr, hp⟩ := chk_spec hc
  have hx := hr xs[k] (List.getElem_mem hk)
  have hf : firstB (sealed xs[k] s) = xs[k].1 := first_one _ _ _ _ hx.1 hx.2
  have hb : bodyOf (sealed xs[k] s) = oneB xs[k].1 ++ s := body_mark _ _ _
  unfold openF
  rw [if_neg (fun h => h hc), sealed_size, if_neg (by omega), hf, atN_self xs k hk hp, List.getElem?_eq_getElem hk]
  simp only
  rw [hb, if_pos (by unfold sealed; rfl), one_rest _ _ _ (by omega)]
theorem open_lost {xs : List Ep} (hc : chk xs = 0) (x : Ep) (hx : 1 ≤ x.1 ∧ x.1 ≤ 255) (s : ByteArray) (hs : s.size ≤ 111) (hn : atN x.1 xs = xs.length) : openF xs (sealed x s) = (emptyS, 0, 5) := by
  have hf : firstB (sealed x s) = x.1 := first_one _ _ _ _ hx.1 hx.2
  unfold openF
  rw [if_neg (fun h => h hc), sealed_size, if_neg (by omega), hf, hn, List.getElem?_eq_none (Nat.le_refl _)]
theorem last_no' {xs : List Ep} {n : Nat} (h : xs.length = n + 1) : lastNo xs = (xs[n]'(by omega)).1 := last_no xs n h
theorem last_ge {xs : List Ep} (hc : chk xs = 0) (x : Ep) (hx : x ∈ xs) : x.1 ≤ lastNo xs := by
  obtain ⟨h8, hr, hp⟩ := chk_spec hc
  obtain ⟨i, hi, rfl⟩ := List.getElem_of_mem hx
  obtain ⟨n, hn⟩ : ∃ n, xs.length = n + 1 := ⟨xs.length - 1, by omega⟩
  rw [last_no xs n hn]
  by_cases e : i = n
  · subst e; exact Int.le_refl _
  · have := List.pairwise_iff_getElem.1 hp i n hi (by omega) (by omega)
    omega
/-- the ring with a key more -/
theorem chk_add {xs : List Ep} (hc : chk xs = 0) (h8 : xs.length < 8) (h255 : lastNo xs ≠ 255) (k : W64 × W64) : chk (xs ++ [(lastNo xs + 1, k)]) = 0 := by
  obtain ⟨_, hr, hp⟩ := chk_spec hc
  have hb := last_bd hc
  refine chk_of (by simp; omega) (fun x hx => ?_) ?_
  · rcases List.mem_append.1 hx with hx | hx
    · exact hr x hx
    · have e : x = (lastNo xs + 1, k) := by simpa using hx
      subst e; constructor <;> simp only <;> omega
  · refine List.pairwise_append.2 ⟨hp, List.pairwise_singleton _ _, fun x hx y hy => ?_⟩
    have e : y = (lastNo xs + 1, k) := by simpa using hy
    subst e
    have := last_ge hc x hx
    simp only; omega
theorem chk_erase {xs : List Ep} (hc : chk xs = 0) (i : Nat) : chk (xs.eraseIdx i) = 0 := by
  obtain ⟨h8, hr, hp⟩ := chk_spec hc
  have hs : (xs.eraseIdx i).Sublist xs := List.eraseIdx_sublist xs i
  exact chk_of (Nat.le_trans hs.length_le h8) (fun x hx => hr x (hs.subset hx)) (hp.sublist hs)
end Rg
end Go.Proofs.Ytmeoeihfgmmgmaa
