/- The tag of a text. -/
import Derived.Test.YtmeoeihfgmmgmaaTagWords
set_option linter.unusedVariables false
namespace Go.Proofs.Ytmeoeihfgmmgmaa
open Go.RowKit
namespace Tg
theorem S4.next {B : Nat} {W w w' : World} {g : Nat} {v : S} (h : S4 B W w g v) (hb : Below w.heap.size w w') (hB : B ≤ w.heap.size) : S4 B W w' g v :=
  ⟨h.below.trans (hb.mono hB), h.ge, kl hb h.lt, kp hb h.c0, kp hb h.c1, kp hb h.c2, kp hb h.c3, fun j => (hb.frozen (p := ⟨g, j, none⟩) h.lt).trans (h.fr j)⟩
def set4 (w : World) (g : Nat) (v : S) : World := (((w.setCell ⟨g, 0, none⟩ (.int .u64 (wi v.a))).setCell ⟨g, 1, none⟩ (.int .u64 (wi v.b))).setCell ⟨g, 2, none⟩ (.int .u64 (wi v.c))).setCell ⟨g, 3, none⟩ (.int .u64 (wi v.d))
theorem S4.put {B : Nat} {W w : World} {g : Nat} {v : S} (h : S4 B W w g v) (u : S) : S4 B W (set4 w g u) g u := (((h.set0 u.a).set1 u.b).set2 u.c).set3 u.d
theorem set4_far (w : World) (g : Nat) (v : S) (b o : Nat) (h : b ≠ g) : (set4 w g v).cell? ⟨b, o, none⟩ = w.cell? ⟨b, o, none⟩ := by
  have e : ∀ k, (⟨g, k, none⟩ : Addr) ≠ ⟨b, o, none⟩ := fun k x => by injection x with x; exact h x.symm
  unfold set4
  rw [World.cell?_setCell_other _ _ _ _ (e 3), World.cell?_setCell_other _ _ _ _ (e 2), World.cell?_setCell_other _ _ _ _ (e 1), World.cell?_setCell_other _ _ _ _ (e 0)]
theorem st4 (w : World) (v : S) (t : TypeId) : S4 w.heap.size w (w.alloc (.cells #[.int .u64 (wi v.a), .int .u64 (wi v.b), .int .u64 (wi v.c), .int .u64 (wi v.d)] t)) w.heap.size v := by
  refine ⟨(br w).alloc (Nat.le_refl _) _, Nat.le_refl _, by simp, ?_, ?_, ?_, ?_, fun j => ?_⟩
  · rw [World.cell?_alloc_mark]; rfl
  · rw [World.cell?_alloc_mark]; rfl
  · rw [World.cell?_alloc_mark]; rfl
  · rw [World.cell?_alloc_mark]; rfl
  · rw [World.frozen?_alloc_mark]; simp
theorem fold_snoc (l : List W64) (k : Nat) (h : k < l.length) (v : S) : (l.take (k + 1)).foldl take v = take ((l.take k).foldl take v) (l.getD k 0) := by
  rw [List.getD_eq_getElem?_getD, List.getElem?_eq_getElem h]
  have : l.take (k + 1) = l.take k ++ [l[k]] := by simp
  rw [this, List.foldl_append]; rfl
set_option maxHeartbeats 2000000 in
theorem of_any (a b : W64) (s : ByteArray) (w : World) (hs : s.size ≤ 140737488351232) : Calls Try.prog 29 #[aK a b, .string s] w fun e w' => e = .returned (.int .u64 (wi (tagF a b s.data.toList))) ∧ Below w.heap.size w w' := by
  unfold aK
  go_enter Try.func29, Try.ntmps29
  go_wp2_with fail
  refine (start_any a b _).mono ?_
  rintro en w1 ⟨rfl, hb1⟩
  obtain ⟨st, hst⟩ : ∃ st, start a b = st := ⟨_, rfl⟩
  rw [hst]
  unfold aS
  have HST := Lib.hid hst; clear hst
  have hB1 : Below w.heap.size w w1 := bt ((br w).alloc (Nat.le_refl _) _) hb1
  have h4 := st4 w1 st 59
  have H4 := Lib.hid h4; clear h4
  go_wp2_with fail
  refine (words_any s _ hs).mono ?_
  rintro en w2 ⟨g, N, rfl, hge, hlt, hN, hNb, hcells, hb2⟩
  have h5 := H4.out.next hb2 (by simp)
  have HW := Lib.hid hcells; have HN := Lib.hid hN
  have hgV : g ≠ w1.heap.size := by simp at hge; omega
  have hV : w1.heap.size < w2.heap.size := h5.lt
  have H5 := Lib.hid h5
  clear hcells hN h5 H4 hge hb2
  go_wp2
  go_loopw [13] (fun i wr => ∃ k : Nat, k ≤ N ∧ i = .int .i64 k ∧ S4 w1.heap.size w1 wr w1.heap.size (((words s.data.toList).take k).foldl take st) ∧ g < wr.heap.size ∧ RowKit.Hid (∀ i, i < N → wr.cell? ⟨g, i, none⟩ = some (.int .u64 (wi ((words s.data.toList).getD i 0))))) (fun i _ => N - (intOf i).toNat)
  case atStart => exact ⟨0, Nat.zero_le _, rfl, H5.out, hlt, HW⟩
  case round =>
    obtain ⟨k, hk, rfl, hS, hgl, HC⟩ := hrel
    clear H5 HW
    have c0 := hS.c0; have c1 := hS.c1; have c2 := hS.c2; have c3 := hS.c3
    by_cases hkN : k < N
    · have ck := HC.out k hkN
      have hsn := fold_snoc (words s.data.toList) k (by have := HN.out; omega) st
      have hf : ∀ j, w.heap.size = j → True := fun _ _ => trivial
      clear hf
      have HSN := Lib.hid hsn; clear hsn
      generalize ((words s.data.toList).take k).foldl take st = v at *
      generalize (words s.data.toList).getD k 0 = m at *
      have HS := Lib.hid hS
      have hsz := hS.below.size
      clear hS
      go_wp2_with fail
      refine (take_any v m _).mono ?_
      rintro en w3 ⟨rfl, hb3⟩
      have h6 := HS.out.next hb3 hsz
      unfold aS
      have f0 := h6.fr 0; have f1 := h6.fr 1; have f2 := h6.fr 2; have f3 := h6.fr 3
      have d0 := h6.c0; have d1 := h6.c1; have d2 := h6.c2; have d3 := h6.c3
      have h7 := Lib.hid (h6.put (take v m))
      have hgl3 : g < w3.heap.size := kl hb3 hgl
      have hC7 : RowKit.Hid (∀ i, i < N → (set4 w3 w1.heap.size (take v m)).cell? ⟨g, i, none⟩ = some (.int .u64 (wi ((words s.data.toList).getD i 0)))) := Lib.hid (fun i hi => (set4_far w3 _ _ g i hgV).trans ((hb3.cell (p := ⟨g, i, none⟩) hgl).trans (HC.out i hi)))
      have hsz7 : g < (set4 w3 w1.heap.size (take v m)).heap.size := by unfold set4; simpa using hgl3
      clear h6 hb3 c0 c1 c2 c3
      go_wp2
      go_roundw
      case rel => exact ⟨k + 1, by omega, by go_num, by rw [HSN.out]; exact h7.out, hsz7, hC7⟩
      case measure => simp [intOf]; omega
    · have hkN' : k = (words s.data.toList).length := by have := HN.out; omega
      have hall : ((words s.data.toList).take k).foldl take st = (words s.data.toList).foldl take st := by rw [hkN', List.take_length]
      have hres : finish (((words s.data.toList).take k).foldl take st) = tagF a b s.data.toList := by rw [hall, ← HST.out]; rfl
      have HR := Lib.hid hres
      have hsz := hS.below
      clear hres hall hkN'
      generalize ((words s.data.toList).take k).foldl take st = v at *
      clear hS
      go_wp2_with fail
      refine (finish_any v _).mono ?_
      rintro en w3 ⟨rfl, hb3⟩
      go_wp2
      go_ret
      exact ⟨by rw [← HR.out]; rfl, bt (hB1.trans (hsz.mono hB1.size)) hb3⟩
end Tg
end Go.Proofs.Ytmeoeihfgmmgmaa
