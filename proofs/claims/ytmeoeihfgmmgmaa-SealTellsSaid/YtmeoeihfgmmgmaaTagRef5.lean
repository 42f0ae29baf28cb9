/- The document's tag of a text. -/
import Derived.Test.YtmeoeihfgmmgmaaTagRef4
import Derived.Test.YtmeoeihfgmmgmaaTagOf
import Derived.Deep.RegionWith
set_option linter.unusedVariables false
namespace Go.Proofs.Ytmeoeihfgmmgmaa
open Go.RowKit
namespace Tg
theorem takenOf_x (v : S) (m : W64) (w : World) : Calls Try.prog 39 #[.agg #[.int .u64 (wi v.a), .int .u64 (wi v.b), .int .u64 (wi v.c), .int .u64 (wi v.d)], .int .u64 (wi m)] w fun e w' => e = .returned (.agg #[.int .u64 (wi (take v m).a), .int .u64 (wi (take v m).b), .int .u64 (wi (take v m).c), .int .u64 (wi (take v m).d)]) ∧ Below w.heap.size w w' := takenOf_any v m w
theorem rd_own {w : World} {base : Nat} {v : Value} {l : List W64} (h : OwnU w base v (l.map wi)) (hp : 0 < l.length) : ∃ g cap, v = .slice (some ⟨g, 0, none⟩) l.length cap ∧ base ≤ g ∧ l.length ≤ cap ∧ cap ≤ maxLen ∧ g < w.heap.size ∧ ∀ i, i < l.length → w.cell? ⟨g, i, none⟩ = some (.int .u64 (wi (l.getD i 0))) := by
  have hl : (l.map wi).length = l.length := by simp
  obtain ⟨a0, cap', e0, hc1, hc2, hc3⟩ := h.rd
  obtain ⟨b, off, rfl, hlt, hcells⟩ := hc3 (by omega)
  obtain ⟨_, ⟨_, h0⟩ | ⟨g, cap, cur, h1, h2, h3, h4, h5, h6, h7⟩⟩ := h
  · omega
  · rw [e0] at h1
    injection h1 with h1 _ h1'
    injection h1 with h1
    injection h1 with hb ho
    subst hb; subst ho; subst h1'
    refine ⟨b, cap', by rw [e0, hl], h2, by omega, h5, hlt, fun i hi => ?_⟩
    have := eU_at hcells i (by omega)
    rw [Nat.zero_add] at this
    rw [this, List.getD_eq_getElem?_getD, List.getElem?_eq_getElem hi]
    simp
set_option maxHeartbeats 2000000 in
theorem tagOf_any (a b : W64) (s : ByteArray) (w : World) (hs : s.size ≤ 140737488351232) : Calls Try.prog 32 #[aK a b, .string s] w fun e w' => e = .returned (.int .u64 (wi (tagF a b s.data.toList))) ∧ Below w.heap.size w w' := by
  unfold aK
  go_enter Try.func32, Try.ntmps32
  go_wp2_with fail
  refine (startOf_any a b _).mono ?_
  rintro en w1 ⟨rfl, hb1⟩
  obtain ⟨st, hst⟩ : ∃ st, start a b = st := ⟨_, rfl⟩
  rw [hst]
  unfold aS
  have HST := Lib.hid hst; clear hst
  have hB1 : Below w.heap.size w w1 := bt ((br w).alloc (Nat.le_refl _) _) hb1
  have h4 := st4 w1 st 59
  have H4 := Lib.hid h4; clear h4
  go_wp2_with fail
  refine (wordsOf_any s _ hs).mono ?_
  rintro en w2 ⟨v, rfl, hv, hb2⟩
  have hwl : (words s.data.toList).length = s.size / 8 + 1 := by rw [words_len]; simp
  obtain ⟨g, cap, rfl, hge, hc1, hc2, hlt, hcells⟩ := rd_own hv (by omega)
  have hNb : (words s.data.toList).length ≤ 140737488355328 := by omega
  have h5 := H4.out.next hb2 (by simp)
  obtain ⟨N, hN⟩ : ∃ N, N = (words s.data.toList).length := ⟨_, rfl⟩
  rw [← hN] at hc1 hcells hNb ⊢
  have HW := Lib.hid hcells; have HN := Lib.hid hN
  have hgV : g ≠ w1.heap.size := by simp at hge; omega
  have hV : w1.heap.size < w2.heap.size := h5.lt
  have H5 := Lib.hid h5
  clear hcells hN h5 H4 hb2 hv hwl hge
  go_wp2
  go_loopw [7] (fun i wr => ∃ k : Nat, k ≤ N ∧ i = .int .i64 k ∧ S4 w1.heap.size w1 wr w1.heap.size (((words s.data.toList).take k).foldl take st) ∧ g < wr.heap.size ∧ RowKit.Hid (∀ i, i < N → wr.cell? ⟨g, i, none⟩ = some (.int .u64 (wi ((words s.data.toList).getD i 0))))) (fun i _ => N - (intOf i).toNat)
  case atStart => exact ⟨0, Nat.zero_le _, rfl, H5.out, hlt, HW⟩
  case round =>
    obtain ⟨k, hk, rfl, hS, hgl, HC⟩ := hrel
    clear H5 HW
    have c0 := hS.c0; have c1 := hS.c1; have c2 := hS.c2; have c3 := hS.c3
    have q0 := hS.fr 0; have q1 := hS.fr 1; have q2 := hS.fr 2; have q3 := hS.fr 3
    by_cases hkN : k < N
    · have ck := HC.out k hkN
      have hsn := fold_snoc (words s.data.toList) k (by have := HN.out; omega) st
      have HSN := Lib.hid hsn; clear hsn
      generalize ((words s.data.toList).take k).foldl take st = v at *
      generalize (words s.data.toList).getD k 0 = m at *
      have HS := Lib.hid hS
      have hsz := hS.below.size
      clear hS
      have i0 : (0 : Int) ≤ (k : Int) := by omega
      have i1 : (k : Int) < (N : Int) := by omega
      go_wp2_with fail
      go_region_with ((go_at_call 39; refine (takenOf_x v m _).mono ?_; rintro en w4 ⟨rfl, hb4⟩; have f0 := (hb4.frozen (p := ⟨w1.heap.size, 0, none⟩) HS.out.lt).trans q0; have f1 := (hb4.frozen (p := ⟨w1.heap.size, 1, none⟩) HS.out.lt).trans q1; have f2 := (hb4.frozen (p := ⟨w1.heap.size, 2, none⟩) HS.out.lt).trans q2; have f3 := (hb4.frozen (p := ⟨w1.heap.size, 3, none⟩) HS.out.lt).trans q3; have d0 := (hb4.cell (p := ⟨w1.heap.size, 0, none⟩) HS.out.lt).trans c0; have d1 := (hb4.cell (p := ⟨w1.heap.size, 1, none⟩) HS.out.lt).trans c1; have d2 := (hb4.cell (p := ⟨w1.heap.size, 2, none⟩) HS.out.lt).trans c2; have d3 := (hb4.cell (p := ⟨w1.heap.size, 3, none⟩) HS.out.lt).trans c3; have hb4 := Lib.hid hb4))
      all_goals
        go_wp2
        have h6 := HS.out.next (bd (br wr) hb4.out) hsz
        have h7 := Lib.hid (h6.put (take v m))
        have hgl3 : g < w4.heap.size := kl (bd (br wr) hb4.out) hgl
        have hC7 : RowKit.Hid (∀ i, i < N → (set4 w4 w1.heap.size (take v m)).cell? ⟨g, i, none⟩ = some (.int .u64 (wi ((words s.data.toList).getD i 0)))) := Lib.hid (fun i hi => (set4_far w4 _ _ g i hgV).trans (((bd (br wr) hb4.out).cell (p := ⟨g, i, none⟩) hgl).trans (HC.out i hi)))
        have hsz7 : g < (set4 w4 w1.heap.size (take v m)).heap.size := by unfold set4; simpa using hgl3
        clear h6 c0 c1 c2 c3 d0 d1 d2 d3
        go_roundw
        case rel => exact ⟨k + 1, by omega, by go_num, by rw [HSN.out]; exact h7.out, hsz7, hC7⟩
        case measure => simp [intOf]; omega
    · have hkN' : k = (words s.data.toList).length := by have := HN.out; omega
      have hall : ((words s.data.toList).take k).foldl take st = (words s.data.toList).foldl take st := by rw [hkN', List.take_length]
      have hres : finish (((words s.data.toList).take k).foldl take st) = tagF a b s.data.toList := by rw [hall, ← HST.out]; rfl
      have HR := Lib.hid hres
      have hsz := hS.below
      clear hres hall hkN'
      generalize ((words s.data.toList).take k).foldl take st = v at *
      clear hS
      go_wp2_with fail
      refine (finishOf_any v _).mono ?_
      rintro en w3 ⟨rfl, hb3⟩
      go_wp2
      go_ret
      exact ⟨by rw [← HR.out]; rfl, bt (hB1.trans (hsz.mono hB1.size)) hb3⟩
end Tg
end Go.Proofs.Ytmeoeihfgmmgmaa
