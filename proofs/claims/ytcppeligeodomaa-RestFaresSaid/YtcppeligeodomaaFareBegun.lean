/- Fares: what must be in any case. -/
import Derived.Test.YtcppeligeodomaaFareBoth
import Derived.Test.YtcppeligeodomaaFareMendR
import Derived.Test.YtcppeligeodomaaFareLawP
set_option linter.unusedVariables false
namespace Go.Proofs.Ytcppeligeodomaa
open Go.RowKit
namespace Fa
/-- mending, as the laws want it -/
abbrev MendL (rs : List Rw) (w : World) (e : Ending) (w' : World) : Prop := ∃ v' qs, e = .returned (.tuple #[v', .int .i64 (chkF (mat rs))]) ∧ RdF w' v' qs ∧ (chkF (mat rs) = 0 → mat qs = mended (mat rs)) ∧ (chkF (mat rs) ≠ 0 → qs = []) ∧ Below w.heap.size w w'
theorem rdF_nil (w : World) : RdF w (.slice none 0 0) [] := ⟨Rd.nil w, fun r h => by simp at h⟩
theorem mend_law (v : Value) (rs : List Rw) (w : World) (h : RdF w v rs) : Calls Try.prog 21 #[v] w (MendL rs w) := by
  by_cases c : chkF (mat rs) = 0
  · have hok := (chkF_ok _).1 c
    refine (mend_any v rs w h hok).mono ?_
    rintro e w' ⟨go, ps, rfl, hM, hp, hb⟩
    have hml : (mat rs).length = rs.length := List.length_map _
    have hsl := mended_sl hok
    unfold mended at hsl
    rw [hml, ← hp] at hsl
    have hlen : ps.length = rs.length := by have := hsl.1.len; rw [List.length_map] at this; exact this
    have hsix := hok.six
    refine ⟨_, ps.map rwOf, by rw [c], hM.rdf (by omega) (fun i hi => ?_), fun _ => by rw [mat_rwOf, hp]; unfold mended; rw [hml], fun hn => absurd c hn, hb⟩
    have := hsl.1.row i (by omega)
    rw [List.getD_eq_getElem?_getD, List.getElem?_map, List.getElem?_eq_getElem hi] at this
    simp only [Option.map_some, Option.getD_some] at this
    omega
  · refine (mend_bad v rs w h c).mono ?_
    rintro e w' ⟨rfl, hb⟩
    exact ⟨_, [], rfl, rdF_nil _, fun h => absurd h c, fun _ => rfl, hb⟩
theorem mendR_law (v : Value) (rs : List Rw) (w : World) (h : RdF w v rs) : Calls Try.prog 22 #[v] w (MendL rs w) := by
  by_cases c : chkF (mat rs) = 0
  · have hok := (chkF_ok _).1 c
    refine (mendR_any v rs w h hok).mono ?_
    rintro e w' ⟨v', qs, rfl, hR, hq, hb⟩
    have hml : (mat rs).length = rs.length := List.length_map _
    exact ⟨v', qs, by rw [c], hR, fun _ => by rw [hq]; unfold mended; rw [hml], fun hn => absurd c hn, hb⟩
  · refine (mendR_bad v rs w h c).mono ?_
    rintro e w' ⟨rfl, hb⟩
    exact ⟨_, [], rfl, rdF_nil _, fun h => absurd h c, fun _ => rfl, hb⟩
theorem of_is (v : Value) (rs : List Rw) (x y pc way : Int) (w : World) (h : RdF w v rs) (r : Int × Int) (hr : fareOf (mat rs) x y pc way = r) : Calls Try.prog 15 #[v, .int .i64 x, .int .i64 y, .int .i64 pc, .int .i64 way] w (PairQ r w) := by
  rw [← hr]; exact of_any v rs x y pc way w h
theorem check_is (v : Value) (rs : List Rw) (w : World) (h : RdF w v rs) (r : Int) (hr : chkF (mat rs) = r) : Calls Try.prog 19 #[v] w (IntQ r w) := by
  rw [← hr]; exact check_any v rs w h
theorem mend_is (v : Value) (rs : List Rw) (w : World) (h : RdF w v rs) (h0 : chkF (mat rs) = 0) (M : List (List Int)) (hM : mended (mat rs) = M) : Calls Try.prog 21 #[v] w fun e w' => ∃ v' qs, e = .returned (.tuple #[v', .int .i64 0]) ∧ RdF w' v' qs ∧ mat qs = M ∧ Below w.heap.size w w' :=
  (mend_law v rs w h).mono fun e w' ⟨v', qs, h1, h2, h3, h4, h5⟩ => ⟨v', qs, by rw [h1, h0], h2, by rw [h3 h0, hM], h5⟩
theorem fair_is (r : Bool) (v : Value) (rs : List Rw) (w : World) (h : RdF w v rs) (h0 : chkF (mat rs) = 0) (hr : r = true ↔ Fair (mat rs)) : Calls Try.prog 14 #[v] w fun e w' => e = .returned (.tuple #[.bool r, .int .i64 0]) ∧ Below w.heap.size w w' := by
  have := fairC_any r v rs w h (by rw [hr]; exact ⟨fun g => ⟨h0, g⟩, fun g => g.2⟩)
  rw [h0] at this; exact this
theorem same_is (r : Bool) (v u : Value) (xs ys : List Rw) (w : World) (h : RdF w v xs) (h' : RdF w u ys) (hr : decide (mat xs = mat ys) = r) : Calls Try.prog 23 #[v, u] w (BoolQ r w) := by
  rw [← hr]; exact sameF_any v u xs ys w h h'
/-- fares written out -/
theorem lit3 (A B C : List Int) (w : World) (hA : A.length ≤ 6) (hB : B.length ≤ 6) (hC : C.length ≤ 6) :
    RdF ((((w.alloc (.cells (A.map (Value.int .i64)).toArray 3)).alloc (.cells (B.map (Value.int .i64)).toArray 3)).alloc (.cells (C.map (Value.int .i64)).toArray 3)).alloc (.cells #[.slice (some ⟨w.heap.size, 0, none⟩) A.length A.length, .slice (some ⟨w.heap.size + 1, 0, none⟩) B.length B.length, .slice (some ⟨w.heap.size + 1 + 1, 0, none⟩) C.length C.length] 37))
      (.slice (some ⟨w.heap.size + 1 + 1 + 1, 0, none⟩) 3 3) [⟨some ⟨w.heap.size, 0, none⟩, A.length, A⟩, ⟨some ⟨w.heap.size + 1, 0, none⟩, B.length, B⟩, ⟨some ⟨w.heap.size + 1 + 1, 0, none⟩, C.length, C⟩] := by
  have fl : ∀ l : List Int, l.flatMap eI = l.map (Value.int .i64) := fun l => by induction l with | nil => rfl | cons x l ih => simp [List.flatMap_cons, eI, ih]
  have r1 := rd_lit elI A w 3 (0, 0) w.heap.size rfl (by unfold maxLen; omega)
  have r2 := rd_lit elI B (w.alloc (.cells (A.map (Value.int .i64)).toArray 3)) 3 (0, 0) (w.heap.size + 1) (by simp) (by unfold maxLen; omega)
  have r3 := rd_lit elI C ((w.alloc (.cells (A.map (Value.int .i64)).toArray 3)).alloc (.cells (B.map (Value.int .i64)).toArray 3)) 3 (0, 0) (w.heap.size + 1 + 1) (by simp) (by unfold maxLen; omega)
  rw [fl] at r1 r2 r3
  have r1' := Rd.below (Rd.below (Rd.below r1 ((br _).alloc (Nat.le_refl _) (.cells (B.map (Value.int .i64)).toArray 3))) ((br _).alloc (Nat.le_refl _) (.cells (C.map (Value.int .i64)).toArray 3))) ((br _).alloc (Nat.le_refl _) (.cells #[.slice (some ⟨w.heap.size, 0, none⟩) A.length A.length, .slice (some ⟨w.heap.size + 1, 0, none⟩) B.length B.length, .slice (some ⟨w.heap.size + 1 + 1, 0, none⟩) C.length C.length] 37))
  have r2' := Rd.below (Rd.below r2 ((br _).alloc (Nat.le_refl _) (.cells (C.map (Value.int .i64)).toArray 3))) ((br _).alloc (Nat.le_refl _) (.cells #[.slice (some ⟨w.heap.size, 0, none⟩) A.length A.length, .slice (some ⟨w.heap.size + 1, 0, none⟩) B.length B.length, .slice (some ⟨w.heap.size + 1 + 1, 0, none⟩) C.length C.length] 37))
  have r3' := Rd.below r3 ((br _).alloc (Nat.le_refl _) (.cells #[.slice (some ⟨w.heap.size, 0, none⟩) A.length A.length, .slice (some ⟨w.heap.size + 1, 0, none⟩) B.length B.length, .slice (some ⟨w.heap.size + 1 + 1, 0, none⟩) C.length C.length] 37))
  refine ⟨rd_lit elR [⟨some ⟨w.heap.size, 0, none⟩, A.length, A⟩, ⟨some ⟨w.heap.size + 1, 0, none⟩, B.length, B⟩, ⟨some ⟨w.heap.size + 1 + 1, 0, none⟩, C.length, C⟩] _ _ _ _ (by simp) (by simp [maxLen]), fun r hr => ?_⟩
  simp only [List.mem_cons, List.mem_nil_iff, or_false] at hr
  rcases hr with rfl | rfl | rfl
  · exact r1'
  · exact r2'
  · exact r3'
theorem lit2 (A B : List Int) (w : World) (hA : A.length ≤ 6) (hB : B.length ≤ 6) :
    RdF (((w.alloc (.cells (A.map (Value.int .i64)).toArray 3)).alloc (.cells (B.map (Value.int .i64)).toArray 3)).alloc (.cells #[.slice (some ⟨w.heap.size, 0, none⟩) A.length A.length, .slice (some ⟨w.heap.size + 1, 0, none⟩) B.length B.length] 37))
      (.slice (some ⟨w.heap.size + 1 + 1, 0, none⟩) 2 2) [⟨some ⟨w.heap.size, 0, none⟩, A.length, A⟩, ⟨some ⟨w.heap.size + 1, 0, none⟩, B.length, B⟩] := by
  have fl : ∀ l : List Int, l.flatMap eI = l.map (Value.int .i64) := fun l => by induction l with | nil => rfl | cons x l ih => simp [List.flatMap_cons, eI, ih]
  have r1 := rd_lit elI A w 3 (0, 0) w.heap.size rfl (by unfold maxLen; omega)
  have r2 := rd_lit elI B (w.alloc (.cells (A.map (Value.int .i64)).toArray 3)) 3 (0, 0) (w.heap.size + 1) (by simp) (by unfold maxLen; omega)
  rw [fl] at r1 r2
  have r1' := Rd.below (Rd.below r1 ((br _).alloc (Nat.le_refl _) (.cells (B.map (Value.int .i64)).toArray 3))) ((br _).alloc (Nat.le_refl _) (.cells #[.slice (some ⟨w.heap.size, 0, none⟩) A.length A.length, .slice (some ⟨w.heap.size + 1, 0, none⟩) B.length B.length] 37))
  have r2' := Rd.below r2 ((br _).alloc (Nat.le_refl _) (.cells #[.slice (some ⟨w.heap.size, 0, none⟩) A.length A.length, .slice (some ⟨w.heap.size + 1, 0, none⟩) B.length B.length] 37))
  refine ⟨rd_lit elR [⟨some ⟨w.heap.size, 0, none⟩, A.length, A⟩, ⟨some ⟨w.heap.size + 1, 0, none⟩, B.length, B⟩] _ _ _ _ (by simp) (by simp [maxLen]), fun r hr => ?_⟩
  simp only [List.mem_cons, List.mem_nil_iff, or_false] at hr
  rcases hr with rfl | rfl
  · exact r1'
  · exact r2'
abbrev bf : List (List Int) := [[300, 250, 900], [400, 350], [100]]
abbrev bm : List (List Int) := [[250, 250, 350], [250, 350], [100]]
theorem bf_ok : chkF bf = 0 := by decide
theorem bf_of : fareOf bf 0 1 33 3 = (168, 0) := by decide
theorem b1_chk : chkF [[1], [1]] = 1 := by decide
theorem bm_ok : chkF bm = 0 := by decide
theorem bf_mended : mended bf = bm := by decide
theorem bm_fair : Fair bm := by rw [← bf_mended]; exact mended_fair ((chkF_ok _).1 bf_ok)
theorem bf_not : ¬ Fair bf := fun h => by
  have := h.wide 0 0 0 1 (by decide) (by decide) (by decide) (by decide)
  revert this; decide
set_option maxRecDepth 100000 in
set_option maxHeartbeats 4000000 in
theorem begun_any (w : World) : Calls Try.prog 18 #[] w (BoolQ true w) := by
  go_enter Try.func18, Try.ntmps18
  go_wp2_with fail
  have R0 := lit3 [300, 250, 900] [400, 350] [100] w (by decide) (by decide) (by decide)
  have H0 := ((((br w).alloc (Nat.le_refl _) (.cells ([300, 250, 900].map (Value.int .i64)).toArray 3)).alloc (by simp) (.cells ([400, 350].map (Value.int .i64)).toArray 3)).alloc (by simp; omega) (.cells ([100].map (Value.int .i64)).toArray 3)).alloc (by simp; omega) (.cells #[.slice (some ⟨w.heap.size, 0, none⟩) 3 3, .slice (some ⟨w.heap.size + 1, 0, none⟩) 2 2, .slice (some ⟨w.heap.size + 1 + 1, 0, none⟩) 1 1] 37)
  simp only [List.map_cons, List.map_nil, List.length_cons, List.length_nil, Nat.zero_add, Nat.reduceAdd] at R0 H0
  refine (mend_is _ _ _ R0 bf_ok bm bf_mended).mono ?_
  rintro en w1 ⟨v1, q1, rfl, R1, M1, b1⟩
  have R0a := R0.next b1
  have H1 := bt H0 b1
  clear R0 H0
  go_wp2_with fail
  refine (fair_is false _ _ _ R0a bf_ok ⟨fun h => by simp at h, fun h => absurd h bf_not⟩).mono ?_
  rintro en w2 ⟨rfl, b2⟩
  have R0b := R0a.next b2
  have R1b := R1.next b2
  have H2 := bt H1 b2
  clear R0a H1 R1
  go_wp2_with fail
  refine (fair_is true v1 q1 _ R1b (by rw [M1]; exact bm_ok) ⟨fun _ => by rw [M1]; exact bm_fair, fun _ => rfl⟩).mono ?_
  rintro en w3 ⟨rfl, b3⟩
  have R0c := R0b.next b3
  have R1c := R1b.next b3
  have H3 := bt H2 b3
  clear R0b H2 R1b
  go_wp2_with fail
  refine (of_is _ _ 0 1 33 3 _ R0c (168, 0) bf_of).mono ?_
  rintro en w4 ⟨rfl, b4⟩
  have R1d := R1c.next b4
  have H4 := bt H3 b4
  clear R0c H3 R1c
  have R2 := lit3 [250, 250, 350] [250, 350] [100] w4 (by decide) (by decide) (by decide)
  have B2 := ((((br w4).alloc (Nat.le_refl _) (.cells ([250, 250, 350].map (Value.int .i64)).toArray 3)).alloc (by simp) (.cells ([250, 350].map (Value.int .i64)).toArray 3)).alloc (by simp; omega) (.cells ([100].map (Value.int .i64)).toArray 3)).alloc (by simp; omega) (.cells #[.slice (some ⟨w4.heap.size, 0, none⟩) 3 3, .slice (some ⟨w4.heap.size + 1, 0, none⟩) 2 2, .slice (some ⟨w4.heap.size + 1 + 1, 0, none⟩) 1 1] 37)
  simp only [List.map_cons, List.map_nil, List.length_cons, List.length_nil, Nat.zero_add, Nat.reduceAdd] at R2 B2
  go_wp2_with fail
  refine (same_is true v1 _ q1 _ _ (R1d.next B2) R2 (by rw [M1]; exact decide_eq_true rfl)).mono ?_
  rintro en w5 ⟨rfl, b5⟩
  have H5 := bt H4 (bt B2 b5)
  clear R2 B2 R1d H4
  have R3 := lit2 [1] [1] w5 (by decide) (by decide)
  have B3 := (((br w5).alloc (Nat.le_refl _) (.cells ([1].map (Value.int .i64)).toArray 3)).alloc (by simp) (.cells ([1].map (Value.int .i64)).toArray 3)).alloc (by simp; omega) (.cells #[.slice (some ⟨w5.heap.size, 0, none⟩) 1 1, .slice (some ⟨w5.heap.size + 1, 0, none⟩) 1 1] 37)
  simp only [List.map_cons, List.map_nil, List.length_cons, List.length_nil, Nat.zero_add, Nat.reduceAdd] at R3 B3
  go_wp2_with fail
  refine (check_is _ _ _ R3 1 b1_chk).mono ?_
  rintro en w6 ⟨rfl, b6⟩
  have H6 := bt H5 (bt B3 b6)
  clear R3 B3 H5
  go_wp2
  go_ret
  exact ⟨rfl, H6⟩
end Fa
end Go.Proofs.Ytcppeligeodomaa
