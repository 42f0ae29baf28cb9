/- A tag is what comes of its words, taken one by one. -/
import Derived.Test.YtpddfoifgieghaaTagLaws
import Derived.Deep.CutRange
import Derived.Deep.RegionWith
import Derived.Deep.RegionHeld3
set_option linter.unusedVariables false
namespace Go.Proofs.Ytpddfoifgieghaa
open Go.RowKit
namespace Tg
theorem finish_x (v : S) (w : World) : Calls Try.prog 16 #[.agg #[.int .u64 (wi v.a), .int .u64 (wi v.b), .int .u64 (wi v.c), .int .u64 (wi v.d)]] w fun e w' => e = .returned (.int .u64 (wi (finish v))) ∧ Below w.heap.size w w' := finish_any v w
theorem of_x (a b : W64) (s : ByteArray) (w : World) (hs : s.size ≤ 140737488351232) : Calls Try.prog 17 #[.agg #[.int .u64 (wi a), .int .u64 (wi b)], .string s] w fun e w' => e = .returned (.int .u64 (wi (tagF a b s.data.toList))) ∧ Below w.heap.size w w' := of_any a b s w hs
theorem start_x (a b : W64) (w : World) : Calls Try.prog 13 #[.agg #[.int .u64 (wi a), .int .u64 (wi b)]] w fun e w' => e = .returned (.agg #[.int .u64 (wi (start a b).a), .int .u64 (wi (start a b).b), .int .u64 (wi (start a b).c), .int .u64 (wi (start a b).d)]) ∧ Below w.heap.size w w' := start_any a b w
set_option maxHeartbeats 4000000 in
set_option maxRecDepth 100000 in
theorem parts_walk (a b : W64) (s : ByteArray) (at0 : Int) (w : World) (hs : s.size ≤ 140737488351232) : Calls Try.prog 3 #[aK a b, .string s, .int .i64 at0] w fun e w' => e = .returned (.bool true) ∧ Below w.heap.size w w' := by
  obtain ⟨M, hM⟩ : ∃ M : Int, (if 0 < at0 then at0 else 0) = M := ⟨_, rfl⟩
  have hM2 : (at0 ≤ 0 ∧ M = 0) ∨ (0 < at0 ∧ M = at0) := by
    by_cases h : 0 < at0
    · rw [if_pos h] at hM; exact .inr ⟨h, hM.symm⟩
    · rw [if_neg h] at hM; exact .inl ⟨by omega, hM.symm⟩
  have HM2 := Lib.hid hM2; have HM := Lib.hid hM
  clear hM2 hM
  unfold aK
  go_enter Try.func3, Try.ntmps3
  go_wp2_with fail
  refine (begun_any _).mono ?_
  rintro en w1 ⟨rfl, hb1⟩
  have hb1 := bx hb1
  have k0 : w1.cell? ⟨w.heap.size, 0, none⟩ = some (.int .u64 (wi a)) := boxc hb1 0
  have k1 : w1.cell? ⟨w.heap.size, 1, none⟩ = some (.int .u64 (wi b)) := boxc hb1 1
  have lk : w.heap.size < w1.heap.size := boxs hb1
  have HB1 : Below w.heap.size w w1 := ((br w).alloc (Nat.le_refl _) _).trans (hb1.mono (by simp))
  clear hb1
  go_wp2_with fail
  refine (start_x a b _).mono ?_
  rintro en w2 ⟨rfl, hb2⟩
  have k0 := kp hb2 k0; have k1 := kp hb2 k1
  have lk2 : w.heap.size < w2.heap.size := kl hb2 lk
  have HB2 := bt HB1 hb2
  obtain ⟨st, hst⟩ : ∃ st, start a b = st := ⟨_, rfl⟩
  rw [hst]
  have HST := Lib.hid hst; clear hst hb2
  have h4 := st4 w2 st 26
  have H4 := Lib.hid h4; clear h4
  have K0 := Lib.hid k0; have K1 := Lib.hid k1
  clear k0 k1
  go_wp2_with fail
  refine (words_any s _ hs).mono ?_
  rintro en w3 ⟨g, N, rfl, hge, hlt, hN, hNb, hcells, hb3⟩
  have h5 := H4.out.next hb3 (by simp)
  have HW := Lib.hid hcells; have HN := Lib.hid hN
  have hgV : g ≠ w2.heap.size := by simp at hge; omega
  have H5 := Lib.hid h5
  clear hcells hN h5 H4 hge hb3
  go_wp2
  go_loopw [9] (fun i wr => ∃ k : Nat, k ≤ N ∧ i = .int .i64 k ∧ (k = 0 ∨ (k : Int) ≤ at0) ∧ S4 w2.heap.size w2 wr w2.heap.size (((words s.data.toList).take k).foldl take st) ∧ g < wr.heap.size ∧ RowKit.Hid (∀ i, i < N → wr.cell? ⟨g, i, none⟩ = some (.int .u64 (wi ((words s.data.toList).getD i 0))))) (fun i _ => N - (intOf i).toNat)
  case atStart => exact ⟨0, Nat.zero_le _, rfl, .inl rfl, H5.out, hlt, HW⟩
  case round =>
    obtain ⟨k, hk, rfl, hka, hS, hgl, HC⟩ := hrel
    clear H5 HW
    by_cases hrun : k < N ∧ (k : Int) < at0
    · obtain ⟨hkN, hka2⟩ := hrun
      have c0 := hS.c0; have c1 := hS.c1; have c2 := hS.c2; have c3 := hS.c3
      have q0 := hS.fr 0; have q1 := hS.fr 1; have q2 := hS.fr 2; have q3 := hS.fr 3
      have ck := HC.out k hkN
      have hsn := fold_snoc (words s.data.toList) k (by have := HN.out; omega) st
      have HSN := Lib.hid hsn; clear hsn
      generalize ((words s.data.toList).take k).foldl take st = v at *
      generalize (words s.data.toList).getD k 0 = m at *
      have HS := Lib.hid hS
      have hsz := hS.below.size
      have i0 : (0 : Int) ≤ (k : Int) := by omega
      have i1 : (k : Int) < (N : Int) := by omega
      clear hS
      go_wp2_with fail
      go_region_with ((go_at_call 15; refine (take_x v m _).mono ?_; rintro en w4 ⟨rfl, hb4⟩; have f0 := (hb4.frozen (p := ⟨w2.heap.size, 0, none⟩) HS.out.lt).trans q0; have f1 := (hb4.frozen (p := ⟨w2.heap.size, 1, none⟩) HS.out.lt).trans q1; have f2 := (hb4.frozen (p := ⟨w2.heap.size, 2, none⟩) HS.out.lt).trans q2; have f3 := (hb4.frozen (p := ⟨w2.heap.size, 3, none⟩) HS.out.lt).trans q3; have d0 := (hb4.cell (p := ⟨w2.heap.size, 0, none⟩) HS.out.lt).trans c0; have d1 := (hb4.cell (p := ⟨w2.heap.size, 1, none⟩) HS.out.lt).trans c1; have d2 := (hb4.cell (p := ⟨w2.heap.size, 2, none⟩) HS.out.lt).trans c2; have d3 := (hb4.cell (p := ⟨w2.heap.size, 3, none⟩) HS.out.lt).trans c3; have hb4 := Lib.hid hb4))
      all_goals
        go_wp2
        have h6 := HS.out.next (bd (br wr) hb4.out) hsz
        have h7 := Lib.hid (h6.put (take v m))
        have hgl3 : g < w4.heap.size := kl (bd (br wr) hb4.out) hgl
        have hC7 : RowKit.Hid (∀ i, i < N → (set4 w4 w2.heap.size (take v m)).cell? ⟨g, i, none⟩ = some (.int .u64 (wi ((words s.data.toList).getD i 0)))) := Lib.hid (fun i hi => (set4_far w4 _ _ g i hgV).trans (((bd (br wr) hb4.out).cell (p := ⟨g, i, none⟩) hgl).trans (HC.out i hi)))
        have hsz7 : g < (set4 w4 w2.heap.size (take v m)).heap.size := by unfold set4; simpa using hgl3
        clear h6 c0 c1 c2 c3 d0 d1 d2 d3
        go_roundw
        case rel => exact ⟨k + 1, by omega, by go_num, .inr (by omega), by rw [HSN.out]; exact h7.out, hsz7, hC7⟩
        case measure => simp [intOf]; omega
    · have hkM : (N = k ∧ (N : Int) ≤ M) ∨ ((k : Int) = M ∧ k < N ∧ at0 ≤ (k : Int)) := by have := HM2.out; omega
      have HS0 := Lib.hid hS
      clear hS hrun hka
      have hm := HM.out
      rcases hkM with ⟨rfl, hkM⟩ | ⟨hkM, hkN, hka⟩
      case' inr => have hkM := Lib.hid hkM
      all_goals
        go_wp2_with fail
        clear hm
        go_loopw [10] (fun i wr => ∃ (z : Int) (k : Nat), i = .int .i64 z ∧ ((z = k ∧ k < N) ∨ (N = k ∧ (N : Int) ≤ z)) ∧ S4 w2.heap.size w2 wr w2.heap.size (((words s.data.toList).take k).foldl take st) ∧ g < wr.heap.size ∧ RowKit.Hid (∀ i, i < N → wr.cell? ⟨g, i, none⟩ = some (.int .u64 (wi ((words s.data.toList).getD i 0))))) (fun i _ => ((N : Int) - intOf i).toNat)
        case atStart => first | exact ⟨M, _, rfl, .inr ⟨rfl, hkM⟩, HS0.out, hgl, HC⟩ | exact ⟨M, k, rfl, .inl ⟨hkM.out.symm, hkN⟩, HS0.out, hgl, HC⟩
        case round =>
          clear HS0 HC hgl
          obtain ⟨z, k, rfl, hz, hS, hgl, HC⟩ := hrel
          rcases hz with ⟨rfl, hkN⟩ | ⟨rfl, hz⟩
          · skip
            have c0 := hS.c0; have c1 := hS.c1; have c2 := hS.c2; have c3 := hS.c3
            have q0 := hS.fr 0; have q1 := hS.fr 1; have q2 := hS.fr 2; have q3 := hS.fr 3
            have ck := HC.out k hkN
            have hsn := fold_snoc (words s.data.toList) k (by have := HN.out; omega) st
            have HSN := Lib.hid hsn; clear hsn
            generalize ((words s.data.toList).take k).foldl take st = v at *
            generalize (words s.data.toList).getD k 0 = m at *
            have HS := Lib.hid hS
            have hsz := hS.below.size
            have i0 : (0 : Int) ≤ (k : Int) := by omega
            have i1 : (k : Int) < (N : Int) := by omega
            clear hS
            go_wp2_with fail
            go_region_with ((go_at_call 15; refine (take_x v m _).mono ?_; rintro en w4 ⟨rfl, hb4⟩; have f0 := (hb4.frozen (p := ⟨w2.heap.size, 0, none⟩) HS.out.lt).trans q0; have f1 := (hb4.frozen (p := ⟨w2.heap.size, 1, none⟩) HS.out.lt).trans q1; have f2 := (hb4.frozen (p := ⟨w2.heap.size, 2, none⟩) HS.out.lt).trans q2; have f3 := (hb4.frozen (p := ⟨w2.heap.size, 3, none⟩) HS.out.lt).trans q3; have d0 := (hb4.cell (p := ⟨w2.heap.size, 0, none⟩) HS.out.lt).trans c0; have d1 := (hb4.cell (p := ⟨w2.heap.size, 1, none⟩) HS.out.lt).trans c1; have d2 := (hb4.cell (p := ⟨w2.heap.size, 2, none⟩) HS.out.lt).trans c2; have d3 := (hb4.cell (p := ⟨w2.heap.size, 3, none⟩) HS.out.lt).trans c3; have hb4 := Lib.hid hb4))
            all_goals
              go_wp2
              have h6 := HS.out.next (bd (br wr) hb4.out) hsz
              have h7 := Lib.hid (h6.put (take v m))
              have hgl3 : g < w4.heap.size := kl (bd (br wr) hb4.out) hgl
              have hC7 : RowKit.Hid (∀ i, i < N → (set4 w4 w2.heap.size (take v m)).cell? ⟨g, i, none⟩ = some (.int .u64 (wi ((words s.data.toList).getD i 0)))) := Lib.hid (fun i hi => (set4_far w4 _ _ g i hgV).trans (((bd (br wr) hb4.out).cell (p := ⟨g, i, none⟩) hgl).trans (HC.out i hi)))
              have hsz7 : g < (set4 w4 w2.heap.size (take v m)).heap.size := by unfold set4; simpa using hgl3
              clear h6 c0 c1 c2 c3 d0 d1 d2 d3
              go_roundw
              case rel => exact ⟨(k : Int) + 1, k + 1, by first | rfl | go_num, by omega, by rw [HSN.out]; exact h7.out, hsz7, hC7⟩
              case measure => simp [intOf]; omega
          · have hall : ((words s.data.toList).take N).foldl take st = (words s.data.toList).foldl take st := by rw [HN.out, List.take_length]
            have hres : finish (((words s.data.toList).take N).foldl take st) = tagF a b s.data.toList := by rw [hall, ← HST.out]; rfl
            have HR := Lib.hid hres
            have hB := hS.below
            have k0 := (hB.cell (p := ⟨w.heap.size, 0, none⟩) lk2).trans K0.out
            have k1 := (hB.cell (p := ⟨w.heap.size, 1, none⟩) lk2).trans K1.out
            have c0 := hS.c0; have c1 := hS.c1; have c2 := hS.c2; have c3 := hS.c3
            have HBB := HB2.trans (hB.mono HB2.size)
            clear hres hall hS HC
            generalize ((words s.data.toList).take N).foldl take st = v at *
            go_wp2_with fail
            go_region_held3 (fun w' => w'.cell? ⟨w2.heap.size, 0, none⟩ = some (.int .u64 (wi v.a)) ∧ w'.cell? ⟨w2.heap.size, 1, none⟩ = some (.int .u64 (wi v.b)) ∧ w'.cell? ⟨w2.heap.size, 2, none⟩ = some (.int .u64 (wi v.c)) ∧ w'.cell? ⟨w2.heap.size, 3, none⟩ = some (.int .u64 (wi v.d)) ∧ w'.cell? ⟨w.heap.size, 0, none⟩ = some (.int .u64 (wi a)) ∧ w'.cell? ⟨w.heap.size, 1, none⟩ = some (.int .u64 (wi b)))
              (first | go_keep | (go_split_ands; (repeat' apply And.intro) <;> first | assumption | exact kp hbf (by assumption) | exact kp hbo (by assumption)))
              (first
                | (go_at_call 16; (with_reducible refine (finish_x v _).mono ?_); rintro en wf ⟨rfl, hbf⟩)
                | (go_at_call 17; (with_reducible refine (of_x a b s _ hs).mono ?_); rintro en wo ⟨rfl, hbo⟩))
            all_goals
              go_wp2
              go_ret
              refine ⟨?_, ?_⟩
              · have hr := HR.out
                rw [hr]; simp
              · first | exact bt (bd HBB hbf) hbo | exact bt (bd HBB hbo) hbf
end Tg
end Go.Proofs.Ytpddfoifgieghaa
