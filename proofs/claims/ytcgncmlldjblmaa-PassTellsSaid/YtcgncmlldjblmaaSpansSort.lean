/- Sets of days: edges are sorted. -/
import Derived.Test.YtcgncmlldjblmaaSpansCheck
import Derived.Test.YtcgncmlldjblmaaSpansLay
set_option linter.unusedSimpArgs false
set_option linter.unusedVariables false
namespace Go.Proofs.Ytcgncmlldjblmaa
open Go.Shelf Go.RowKit Go.Lib Go.Sort
namespace Sn
instance : Inhabited Ed := ⟨⟨0, 0, 0⟩⟩
abbrev cfE (x y : Ed) : Int := Lib.compareInt x.at_ y.at_
set_option maxHeartbeats 1000000 in
theorem closure_any (x y : Ed) (W : World) : Calls Try.prog 68 #[aE x, aE y] W fun e w' => e = .returned (.int .i64 (cfE x y)) ∧ ∃ q os', w' = grow (W.drewN q) os' := by
  have hcon := fun W' => AnyG.cmp_Compare_int Lay.cmpI x.at_ y.at_ W'
  change ∀ W', Calls Try.prog 69 _ _ _ at hcon
  show Calls Try.prog 68 #[aE x, aE y] W fun e w' => e = .returned (.int .i64 (Lib.compareInt x.at_ y.at_)) ∧ ∃ q os', w' = grow (W.drewN q) os'
  obtain ⟨x0, x1, x2⟩ := x
  obtain ⟨y0, y1, y2⟩ := y
  simp only at hcon ⊢
  generalize Lib.compareInt x0 y0 = r at hcon ⊢
  go_enter Try.func68, Try.ntmps68
  go_wp2_with (go_at_call 69; refine (hcon _).mono ?_; rintro e w' ⟨rfl, rfl⟩)
  go_ret
  exact ⟨rfl, 0, _, by rw [alloc_eq_grow, alloc_eq_grow, grow_grow]; rfl⟩
theorem ltE (x y : Ed) : ltOf cfE x y = decide (x.at_ < y.at_) := by
  unfold ltOf cfE Lib.compareInt
  by_cases h1 : x.at_ < y.at_
  · simp [h1]
  · by_cases h2 : y.at_ < x.at_ <;> simp [h1, h2]
theorem swoE : SWO (ltOf cfE) where
  irrefl x := by rw [ltE]; simp
  trans x y z h1 h2 := by rw [ltE] at *; simp at *; omega
  ntrans x y z h1 h2 := by rw [ltE] at *; simp at *; omega
theorem ris_of : ∀ (l : List Ed), (∀ (i j : Nat) (hi : i < l.length) (hj : j < l.length), i < j → l[i].at_ ≤ l[j].at_) → Ris l
  | [], _ => trivial
  | [e], _ => trivial
  | e :: e2 :: l, h => ⟨h 0 1 (by simp) (by simp) (by omega), ris_of (e2 :: l) (fun i j hi hj hij => by
      have := h (i + 1) (j + 1) (by simpa using hi) (by simpa using hj) (by omega)
      simpa using this)⟩
theorem flat_get (d : Array Ed) (i j : Nat) (hi : i < d.size) (hj : j < 3) : (flatK eE 3 d)[i * 3 + j]! = (eE d[i]!)[j]! := by
  rw [get_flatK _ _ _ _ (by omega)]
  rw [show (i * 3 + j) / 3 = i by omega, show (i * 3 + j) % 3 = j by omega]
set_option maxHeartbeats 1000000 in
theorem sort_any (blk cap base : Nat) (xs : List Ed) (w : World) (h : ROwn elE w base (.slice (some ⟨blk, 0, none⟩) xs.length cap) xs) (hn : xs.length ≤ 1000) :
    Calls Try.prog 67 #[.slice (some ⟨blk, 0, none⟩) xs.length cap, .func (.func 68) #[] #[]] w fun e w' => e = .returned (.tuple #[]) ∧ ∃ ys, ys.Perm xs ∧ Ris ys ∧ RdE elE w' (.slice (some ⟨blk, 0, none⟩) xs.length cap) ys ∧ Below base w w' := by
  have hrd := h.rd
  have hfz : ∀ j, w.frozen? ⟨blk, j, none⟩ = false := fun j => h.frozenAt j
  obtain ⟨hl, hh⟩ := h
  obtain ⟨hbase, cur, h4, h5, h6⟩ : base ≤ blk ∧ ∃ cur, w.heap[blk]? = some (.cells cur 87 (0, 0)) ∧ xs.length ≤ cap ∧ cap ≤ maxLen := by
    rcases hh with ⟨h1, h2⟩ | ⟨g, cap', cur, h1, h2, h3, h4, h5, h6, h7⟩
    · cases h1
    · injection h1 with e1 e2 e3
      injection e1 with e1
      injection e1 with e1 e4
      subst e1 e3
      exact ⟨h2, cur, h3, h4, h5⟩
  have hlt : blk < w.heap.size := by
    rcases Nat.lt_or_ge blk w.heap.size with h' | h'
    · exact h'
    · rw [Array.getElem?_eq_none h'] at h4; cases h4
  have hone : ∀ (e : Ed) (j : Nat), j < 3 → (eE e)[j]? = some ((eE e)[j]!) := fun e j hj => by
    match j with
    | 0 => rfl
    | 1 => rfl
    | 2 => rfl
    | j + 3 => omega
  have hH : HoldsK eE 3 w blk 0 xs.toArray := by
    intro t ht
    have ht' : t < xs.length * 3 := by simpa using ht
    have hi : t / 3 < xs.length := by omega
    have hj : t % 3 < 3 := Nat.mod_lt _ (by omega)
    refine ⟨?_, by rw [Nat.zero_add]; exact hfz t⟩
    obtain ⟨a, c, e, g1, g2, g3⟩ := hrd
    obtain ⟨b, off, e2, g4, g5⟩ := g3 (by omega)
    injection e with e3 e4 e5
    rw [e2] at e3
    injection e3 with e3
    injection e3 with e6 e7
    subst e6 e7
    have hv := g5 (t / 3) hi (t % 3) _ (hone xs[t / 3] (t % 3) hj)
    rw [show 0 + (t / 3 * 3 + t % 3) = 0 + t by omega] at hv
    rw [hv, get_flatK _ _ _ _ (by simpa using ht')]
    show _ = some (id _)
    simp [hi]
  have eg : ∀ args w, (callFunc 68 args).run Try.prog w = .ok (.enter 68 args) w := enters_of Try.func68 (by kernel_rfl) rfl
  have hcon := AnyQ.slices_SortFunc Lay.sortE 3 Try.isAgg87 Try.sizeOf87 eE (fun _ => rfl) (fun x v hv => by simp [eE] at hv; rcases hv with rfl | rfl | rfl <;> rfl) cfE swoE 68 #[] blk 0 cap xs.toArray w eg (fun m os dk hs x y => closure_any x y _) hH hlt (by simp; omega)
  change Calls Try.prog 67 _ _ _ at hcon
  rw [List.size_toArray] at hcon
  refine hcon.mono ?_
  rintro e w' ⟨rfl, d', n, os, hp, hs, rfl⟩
  have hsz : d'.size = xs.length := by have := hp.1; simpa using this
  have hH' := holdsK_sortWorldK eE 3 w blk 0 n xs.toArray d' os hlt hH (by simpa using hsz)
  refine ⟨rfl, d'.toList, ?_, ?_, ?_, ?_⟩
  · have h3 := hp.2.2
    have e1 : (d'.extract 0 xs.length).toList = d'.toList := by rw [← hsz]; simp
    have e2 : (xs.toArray.extract 0 xs.length).toList = xs := by simp
    rw [e1, e2] at h3
    exact h3
  · refine ris_of _ (fun i j hi hj hij => ?_)
    have hi' : i < d'.size := by simpa using hi
    have hj' : j < d'.size := by simpa using hj
    have := hs i j (Nat.zero_le _) hij (by omega)
    rw [ltE] at this
    have h9 := of_decide_eq_false this
    rw [getElem!_pos d' i hi', getElem!_pos d' j hj'] at h9
    simp only [Array.getElem_toList]
    omega
  · refine ⟨some ⟨blk, 0, none⟩, cap, by simp [hsz], by simp [hsz]; exact h5, h6, fun _ => ⟨blk, 0, rfl, lt_sortWorldK eE 3 w blk 0 n d' os hlt, fun i hi j u hu => ?_⟩⟩
    have hi' : i < d'.size := by simpa using hi
    have hj : j < 3 := by
      rcases Nat.lt_or_ge j 3 with h' | h'
      · exact h'
      · rw [List.getElem?_eq_none (by simp [eE]; omega)] at hu; cases hu
    have hv := (hH' (i * 3 + j) (by simp; omega)).1
    rw [hv, get_flatK _ _ _ _ (by omega), show (i * 3 + j) / 3 = i by omega, show (i * 3 + j) % 3 = j by omega]
    show some (id _) = _
    rw [← hu, hone _ j hj, getElem!_pos d' i hi']
    simp
  · unfold sortWorldK putRowK putRow mapBlock grow
    refine ⟨rfl, rfl, rfl, ?_, fun k hk => ?_⟩
    · simp [ahead]
    · have hkl : k < w.heap.size := by omega
      simp only [ahead]
      rw [Array.getElem?_append_left (by simpa using hkl), Array.getElem?_modify, if_neg (by omega)]
      rfl
end Sn
end Go.Proofs.Ytcgncmlldjblmaa
