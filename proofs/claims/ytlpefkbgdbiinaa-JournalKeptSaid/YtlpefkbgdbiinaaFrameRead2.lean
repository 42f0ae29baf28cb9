/- Frames are read: what the range collects. -/
import Derived.Test.YtlpefkbgdbiinaaFrameRead
import Derived.Lib.Builder
set_option linter.unusedVariables false
namespace Go.Proofs.Ytlpefkbgdbiinaa
open Go.RowKit Go.Shelf
attribute [local go_sem] Oper.semAt_some
namespace Fr
def texts (l : List (Int × Bs)) : List Bs := l.map (·.2)
def lastE (l : List (Int × Bs)) : Int := match l.getLast? with | some x => x.1 | none => 0
theorem lastE_snoc (l : List (Int × Bs)) (x : Int × Bs) : lastE (l ++ [x]) = x.1 := by unfold lastE; simp
theorem texts_snoc (l : List (Int × Bs)) (x : Int × Bs) : texts (l ++ [x]) = texts l ++ [x.2] := by unfold texts; simp
/-- 'out, used = append(out, x), n' in a range over a function: what the two boxes hold behind it -/
theorem collect {W w1 : World} {n0 B0 BU base : Nat} {tS tI te : TypeId} {sz : Nat} {v v' u : Value} {k m : Nat} {xs ys : List Value} {tmp : Obj} (hv : Boxed W B0 tS v) (hU : Boxed W BU tI u) (hne : B0 ≠ BU) (hrow : W.ownsRow base te sz v k xs)
    (hb0 : n0 ≤ B0) (hbu : n0 ≤ BU) (h0 : B0 < base) (hu : BU < base) (hn : base ≤ W.heap.size) (hown' : w1.ownsRow base te sz v' m ys) (hgrow : (W.alloc tmp).grownBy w1 v.ownBlock) (u' : Value) :
    Boxed w1 B0 tS v ∧ Boxed (w1.setCell ⟨B0, 0, none⟩ v') BU tI u ∧ Boxed ((w1.setCell ⟨B0, 0, none⟩ v').setCell ⟨BU, 0, none⟩ u') B0 tS v' ∧ Boxed ((w1.setCell ⟨B0, 0, none⟩ v').setCell ⟨BU, 0, none⟩ u') BU tI u' ∧
      ((w1.setCell ⟨B0, 0, none⟩ v').setCell ⟨BU, 0, none⟩ u').ownsRow base te sz v' m ys ∧ KeepsOthers W ((w1.setCell ⟨B0, 0, none⟩ v').setCell ⟨BU, 0, none⟩ u') ∧ Below n0 W ((w1.setCell ⟨B0, 0, none⟩ v').setCell ⟨BU, 0, none⟩ u') ∧
      (∀ j, j < W.heap.size → j < base → j ≠ B0 → j ≠ BU → ((w1.setCell ⟨B0, 0, none⟩ v').setCell ⟨BU, 0, none⟩ u').heap[j]? = W.heap[j]?) := by
  have far : ∀ j, j < W.heap.size → j < base → w1.heap[j]? = W.heap[j]? := fun j hj hjb => by
    rw [hgrow.block j (by simp; omega) (fun e => by have := (hrow.lt j e.symm).1; omega)]
    exact Lib.alloc_old W tmp j hj
  have hv1 : Boxed w1 B0 tS v := (far B0 hv.lt h0).trans hv
  have hU1 : Boxed w1 BU tI u := (far BU hU.lt hu).trans hU
  have hU2 := hU1.other (Ne.symm hne) v'
  have hr1 : (w1.setCell ⟨B0, 0, none⟩ v').ownsRow base te sz v' m ys := hown'.kept (grownBy_setCell' w1 B0 v') (.inr (fun e => by have := (hown'.lt B0 e).1; omega))
  have hr2 := hr1.kept (grownBy_setCell' (w1.setCell ⟨B0, 0, none⟩ v') BU u') (.inr (fun e => by have := (hown'.lt BU e).1; omega))
  have hko : KeepsOthers W w1 := (KeepsOthers.alloc W tmp).trans (KeepsOthers.of_grownBy hgrow fun j o ej hj => by
    rcases (hrow.alloc tmp).2 with ⟨rfl, _⟩ | ⟨g, cap, cur, rfl, _, hgb, _⟩
    · simp [Value.ownBlock] at ej
    · obtain rfl : g = j := by simpa [Value.ownBlock] using ej
      rw [hgb] at hj; cases hj; rfl)
  refine ⟨hv1, hU2, (hv1.set v').other hne u', hU2.set u', hr2, (hko.trans (KeepsOthers.setCell _ _ _)).trans (KeepsOthers.setCell _ _ _), ?_, fun j hj hjb h1 h2 => ?_⟩
  · exact ((((Below.refl n0 W).alloc (by omega) tmp).grown hgrow (by simp; omega) (fun j ej => by have := (hrow.lt j ej).1; omega)).setCell (p := ⟨B0, 0, none⟩) hb0 v').setCell (p := ⟨BU, 0, none⟩) hbu u'
  · rw [Below.heap_setCell _ _ _ _ h2, Below.heap_setCell _ _ _ _ h1]
    exact far j hj hjb
set_option maxRecDepth 100000 in
set_option maxHeartbeats 4000000 in
theorem read_in (s : Bs) (hs : s.size ≤ 1000000000000000) (w : World) : CallsIn Fence.wide 3 Try.prog 12 #[.string s] w fun e w' => ∃ v, e = .returned (.tuple #[v, .int .i64 (lastE (evs 64 0 s))]) ∧ ROwn elS w' w.heap.size v (texts (evs 64 0 s)) ∧ Below w.heap.size w w' := by
  obtain ⟨i0, hi, hz0, hz1, hz2⟩ := info_parts elS.info
  refine callsIn_of_wp_marks Try.func12 rfl trivial ?_ rfl
  simp only [Try.ntmps12, List.size_toArray, List.length_cons, List.length_nil, Nat.reduceAdd, Nat.reduceSub, Array.replicate_succ, Array.replicate_zero, List.push_toArray, List.append_toArray, List.nil_append, List.cons_append]
  gi_wp2_with fail
  refine ⟨trivial, (callsIn_wide.2 (whole_in s _)).mono ?_⟩
  rintro e w' ⟨rfl, rfl⟩
  gi_wp2
  have bO := Boxed.new w 22 (.slice none 0 0)
  have bU := Boxed.new (w.alloc (.cells #[.slice none 0 0] 22)) 3 (.int .i64 0)
  have bS := Boxed.new ((w.alloc (.cells #[.slice none 0 0] 22)).alloc (.cells #[.int .i64 0] 3)) 9 (.string s)
  rw [World.size_alloc] at bU bS
  rw [World.size_alloc] at bS
  have hB0 : Below w.heap.size w (((w.alloc (.cells #[.slice none 0 0] 22)).alloc (.cells #[.int .i64 0] 3)).alloc (.cells #[.string s] 9)) := (((Below.refl _ w).alloc (Nat.le_refl _) _).alloc (by simp) _).alloc (by simp; omega) _
  refine wpIn_rangeFunc_ownG rfl (by omega) (gf := 38) (lb := #[.pointer (some ⟨w.heap.size + 1 + 1, 0, none⟩)]) rfl trivial (enters_of Try.func38 (by kernel_rfl) rfl)
    (whole_stops 2 (w.heap.size + 1 + 1) s hs _ (by simp) bS.cell) (fun h k => k.trans h) (fun W l o o' hl _ _ _ => World.putObj_heap_other (by simp at hl; omega)) (Below.refl _ _) (fun _ => rfl)
    (fun pre W => ((∃ v, Boxed W w.heap.size 22 v ∧ W.ownsRow (w.heap.size + 1 + 1 + 1) 9 1 v (texts pre).length ((texts pre).flatMap eS) ∧ True) ∧ Boxed W (w.heap.size + 1) 3 (.int .i64 (lastE pre))) ∧ Below w.heap.size w W ∧ w.heap.size + 1 + 1 + 1 ≤ W.heap.size)
    (fun _ _ _ => False)
    (OwnFrom.and (OwnFrom.and (Own.from (holdsRow_own (w.heap.size + 1 + 1 + 1) w.heap.size 22 9 1 (fun pre => (texts pre).length) (fun pre => (texts pre).flatMap eS) (fun pre v => True)) _) (Own.from (boxed_own _ _ _) _)) (OwnFrom.and (ownFrom_below (Nat.le_refl _) (by simp; omega)) (fun _ A B _ h hg _ => Nat.le_trans h hg.size)))
    (fun _ _ _ _ _ hs _ _ => hs)
    ⟨⟨⟨_, (bO.alloc _).alloc _, World.ownsRow_nil _ _ _ _, trivial⟩, bU.alloc _⟩, hB0, by simp⟩
    (fun x => { tmps := #[.string s, undef, .pointer (some ⟨w.heap.size, 0, none⟩), .pointer (some ⟨w.heap.size + 1, 0, none⟩), .int .i64 x.1, .string x.2, .string s, .func (.func 38) #[] #[.pointer (some ⟨w.heap.size + 1 + 1, 0, none⟩)], .int .i64 x.1, .string x.2, undef, undef, undef, undef, undef, undef, undef], defers := [] }) ?assign ?body ?done ?stop
  case assign =>
    intro l x W K hK
    gi_wp2
    exact hK
  case body =>
    rintro l pre x W ⟨⟨⟨v, hv, hrow, _⟩, hU⟩, hB, hsz⟩ hlt
    have hc := hv.cell
    have htl : (texts pre).length = pre.length := by unfold texts; simp
    have HROW := Lib.hid hrow; have HV := Lib.hid hv; have HU := Lib.hid hU; have HB := Lib.hid hB; have HTL := Lib.hid htl
    clear hrow hv hU hB bO bU bS hB0 htl
    gi_wp2_with (gi_at_builtin; refine wpListIn_append_own _ rfl _ _ 22 rfl (w.heap.size + 1 + 1 + 1) 9 i0 (.string ⟨#[]⟩) 1 16 Try.underlying22 hi hz0 hz1 hz2 rfl (by decide) _ _ _ rfl (HROW.out.alloc _) ⟨W.heap.size, 0, none⟩ 1 1 [.string x.2] rfl rfl (cell_one_new _ _ _) (by simp [Value.oneCell']) (by have := HTL.out; unfold maxLen; omega) (by have := HTL.out; omega) (by simp; omega) ?_; intro v' w1 hown' hgrow _; obtain ⟨g', cap', rfl⟩ := ownsRow_succ hown'; obtain ⟨z1, z2, z3, z4, z5, z6, z7, z8⟩ := collect HV.out HU.out (by omega) HROW.out (Nat.le_refl _) (by omega) (by omega) (by omega) hsz hown' hgrow (.int .i64 x.1); have hc1 := z1.cell; have hf1 := z1.frozen; have hc2 := z2.cell; have hf2 := z2.frozen; have Z := Lib.hid (And.intro z3 (And.intro z4 (And.intro z5 (And.intro z6 (And.intro z7 z8))))); clear z1 z2 z3 z4 z5 z6 z7 z8 hown' hgrow)
    obtain ⟨z3, z4, z5, z6, z7, z8⟩ := Z.out
    refine ⟨z6.from _, z8 _ (by omega) (by omega) (by omega) (by omega), ⟨⟨_, z3, ?_, trivial⟩, ?_⟩, HB.out.trans z7, Nat.le_trans hsz z7.size⟩
    · rw [texts_snoc, List.length_append, List.flatMap_append]; exact z5
    · rw [lastE_snoc]; exact z4
  case done =>
    rintro D ys W hD rfl ⟨⟨⟨v, hv, hrow, _⟩, hU⟩, hB, hsz⟩ hK
    have hc := hv.cell
    have hcU := hU.cell
    have hf := hv.frozen
    have hfU := hU.frozen
    obtain ⟨ao, n', cap, rfl⟩ : ∃ ao n' cap, v = .slice ao n' cap := by
      rcases hrow.2 with ⟨hv, _⟩ | ⟨g, cap, cur, hv, _⟩
      · exact ⟨_, _, _, hv⟩
      · exact ⟨_, _, _, hv⟩
    clear bO bU bS hB0
    have hcU2 : (W.setCell ⟨w.heap.size, 0, none⟩ (.slice ao n' cap)).cell? ⟨w.heap.size + 1, 0, none⟩ = some (.int .i64 (lastE (evs 64 0 s))) := (hU.other (by omega) _).cell
    have HROW := Lib.hid hrow; have HV := Lib.hid hv; have HU := Lib.hid hU; have HB := Lib.hid hB; have HK := Lib.hid hK; have HD := Lib.hid hD
    clear hrow hv hU hB hK hD
    gi_wp2
    refine wpIn_wide.2 ?_
    go_region
    all_goals
      gi_wp2
      have hD2 : w.heap.size + 1 + 1 + 1 ≤ D := by have := HD.out; simpa using this
      obtain ⟨u, hu⟩ : ∃ u, Value.int .i64 (lastE (evs 64 0 s)) = u := ⟨_, rfl⟩
      have hV2 : Boxed (((W.setCell ⟨w.heap.size, 0, none⟩ (.slice ao n' cap)).setCell ⟨w.heap.size + 1, 0, none⟩ u).drew) w.heap.size 22 (.slice ao n' cap) := ((HV.out.set _).other (by omega) _)
      have hU2 : Boxed (((W.setCell ⟨w.heap.size, 0, none⟩ (.slice ao n' cap)).setCell ⟨w.heap.size + 1, 0, none⟩ u).drew) (w.heap.size + 1) 3 u := (HU.out.other (by omega) _).set u
      have hK2 : (((W.setCell ⟨w.heap.size, 0, none⟩ (.slice ao n' cap)).setCell ⟨w.heap.size + 1, 0, none⟩ u).drew).heap[D]? = some (.deferred (some [])) := by
        show ((W.setCell ⟨w.heap.size, 0, none⟩ (.slice ao n' cap)).setCell ⟨w.heap.size + 1, 0, none⟩ u).heap[D]? = _
        rw [Below.heap_setCell _ _ _ _ (show D ≠ w.heap.size + 1 by omega), Below.heap_setCell _ _ _ _ (show D ≠ w.heap.size by omega)]
        exact HK.out
      have hR1 := HROW.out.kept (grownBy_setCell' W w.heap.size (.slice ao n' cap)) (.inr (fun e => by have := (HROW.out.lt _ e).1; omega))
      have hR2 := hR1.kept (grownBy_setCell' (W.setCell ⟨w.heap.size, 0, none⟩ (.slice ao n' cap)) (w.heap.size + 1) u) (.inr (fun e => by have := (hR1.lt _ e).1; omega))
      have hB2 : Below w.heap.size w (((W.setCell ⟨w.heap.size, 0, none⟩ (.slice ao n' cap)).setCell ⟨w.heap.size + 1, 0, none⟩ u).drew) := ((HB.out.setCell (p := ⟨w.heap.size, 0, none⟩) (Nat.le_refl _) _).setCell (p := ⟨w.heap.size + 1, 0, none⟩) (Nat.le_succ _) _).drew
      have hR3 : ROwn elS (((W.setCell ⟨w.heap.size, 0, none⟩ (.slice ao n' cap)).setCell ⟨w.heap.size + 1, 0, none⟩ u).drew) w.heap.size (.slice ao n' cap) (texts (evs 64 0 s)) := ROwn.base (E := elS) (show ROwn elS (((W.setCell ⟨w.heap.size, 0, none⟩ (.slice ao n' cap)).setCell ⟨w.heap.size + 1, 0, none⟩ u).drew) (w.heap.size + 1 + 1 + 1) _ _ from hR2) (by omega)
      rw [hu]
      generalize ((W.setCell ⟨w.heap.size, 0, none⟩ (.slice ao n' cap)).setCell ⟨w.heap.size + 1, 0, none⟩ u).drew = W2 at *
      refine ⟨by simp, .inl ⟨_, _, rfl, run_takeDeferred hK2, ?_⟩⟩
      have hV3 := (hV2.kept (grownBy_putObj' W2 D (.deferred none)) (by intro e; injection e; omega)).cell
      have hU3 := (hU2.kept (grownBy_putObj' W2 D (.deferred none)) (by intro e; injection e; omega)).cell
      refine ⟨.tuple #[.slice ao n' cap, u], by simp [results, Try.results12, go_sem, hV3, hU3], .slice ao n' cap, rfl, ownsRow_putObj hR3 _ hK2 rfl, hB2.grown (grownBy_putObj' W2 D _) hB2.size (fun k e => by cases e; omega)⟩
  case stop =>
    rintro D c pre W _ _ h _
    exact h.elim
theorem read_evs (s : Bs) : ∀ (k p : Nat), p ≤ s.size → rd k (s.extract p s.size).data.toList = (texts (evs k p s), (rd k (s.extract p s.size).data.toList).2) ∧ (evs k p s = [] → (rd k (s.extract p s.size).data.toList).2 = 0) ∧ (evs k p s ≠ [] → lastE (evs k p s) = ((p + (rd k (s.extract p s.size).data.toList).2 : Nat) : Int)) := by
  intro k
  induction k with
  | zero => intro p hp; rw [rd_zero]; exact ⟨rfl, fun _ => rfl, fun h => absurd rfl h⟩
  | succ k ih =>
    intro p hp
    have hsz : (s.extract p s.size).size = s.size - p := by simp
    by_cases h2 : p + 2 ≤ s.size
    · rw [rd_ba k (s.extract p s.size) (by omega)]
      by_cases hc : num2 (s.extract p s.size) ≤ 400 ∧ p + 2 + num2 (s.extract p s.size) ≤ s.size
      · rw [if_pos ⟨hc.1, by omega⟩, evs_some k p s h2 hc.1 hc.2]
        obtain ⟨N, hN⟩ : ∃ N, num2 (s.extract p s.size) = N := ⟨_, rfl⟩
        rw [hN] at hc ⊢
        have hl : s.data.toList.length = s.size := rfl
        have e1 : (s.extract p s.size).extract 2 (2 + N) = s.extract (p + 2) (p + 2 + N) := by
          apply ba_ext
          rw [ext_list, ext_list, ext_list, List.take_of_length_le (l := s.data.toList.drop p) (by rw [List.length_drop]; omega), List.drop_drop, show 2 + N - 2 = N by omega, show p + 2 + N - (p + 2) = N by omega]
        have e2 : (s.extract p s.size).extract (2 + N) (s.extract p s.size).size = s.extract (p + 2 + N) s.size := by
          apply ba_ext
          rw [ext_list, ext_list, ext_list, hsz, List.take_of_length_le (l := s.data.toList.drop p) (by rw [List.length_drop]; omega), List.drop_drop, List.take_of_length_le (by rw [List.length_drop]; omega), List.take_of_length_le (by rw [List.length_drop]; omega), show p + (2 + N) = p + 2 + N by omega]
        rw [e1, e2]
        obtain ⟨i1, i2, i3⟩ := ih (p + 2 + N) hc.2
        refine ⟨?_, fun h => by simp at h, fun _ => ?_⟩
        · rw [i1]; rfl
        · by_cases he : evs k (p + 2 + N) s = []
          · rw [he, i2 he]; simp [lastE]; omega
          · have : lastE ((((p + 2 + N : Nat) : Int), s.extract (p + 2) (p + 2 + N)) :: evs k (p + 2 + N) s) = lastE (evs k (p + 2 + N) s) := by
              unfold lastE
              rw [List.getLast?_cons]
              cases h : (evs k (p + 2 + N) s).getLast? with
              | none => rw [List.getLast?_eq_none_iff] at h; exact absurd h he
              | some x => rfl
            rw [this, i3 he]; omega
      · rw [if_neg (fun h => hc ⟨h.1, by omega⟩), evs_none (k + 1) p s (fun h => hc h.2)]
        exact ⟨rfl, fun _ => rfl, fun h => absurd rfl h⟩
    · rw [rd_short _ _ (by show (s.extract p s.size).size < 2; omega), evs_none (k + 1) p s (by omega)]
      exact ⟨rfl, fun _ => rfl, fun h => absurd rfl h⟩
theorem read_is (s : Bs) : texts (evs 64 0 s) = (rd 64 s.data.toList).1 ∧ lastE (evs 64 0 s) = ((rd 64 s.data.toList).2 : Int) := by
  obtain ⟨h1, h2, h3⟩ := read_evs s 64 0 (Nat.zero_le _)
  have e : s.extract 0 s.size = s := by
    apply ba_ext; rw [ext_list, List.drop_zero, List.take_of_length_le]; show s.size ≤ s.size - 0; omega
  rw [e] at h1 h2 h3
  refine ⟨by rw [h1], ?_⟩
  by_cases he : evs 64 0 s = []
  · rw [h2 he, he]; rfl
  · rw [h3 he]; simp
theorem read_any (s : Bs) (hs : s.size ≤ 1000000000000000) (w : World) : Calls Try.prog 12 #[.string s] w fun e w' => ∃ v, e = .returned (.tuple #[v, .int .i64 ((rd 64 s.data.toList).2 : Int)]) ∧ ROwn elS w' w.heap.size v (rd 64 s.data.toList).1 ∧ Below w.heap.size w w' := by
  have h := callsIn_wide.1 (read_in s hs w)
  rw [(read_is s).1, (read_is s).2] at h
  exact h
end Fr
end Go.Proofs.Ytlpefkbgdbiinaa
