/- Sets of days: Of, Union, Meet, Minus. -/
import Derived.Test.YtcgncmlldjblmaaSpansSweep
import Derived.Test.YtcgncmlldjblmaaSpansPlain2
import Derived.Shelf.SlSortCmp.NoneTotal
set_option linter.unusedSimpArgs false
set_option linter.unusedVariables false
namespace Go.Proofs.Ytcgncmlldjblmaa
open Go.RowKit
namespace Sn
set_option maxHeartbeats 1000000 in
theorem sweep_nil (g base : Nat) (w : World) (hbase : base ≤ w.heap.size) :
    Calls Try.prog 58 #[.slice none 0 0, .func (.func g) #[] #[]] w fun e w' => e = .returned (.slice none 0 0) ∧ Below base w w' := by
  have hs := fun W => AnyF.slices_SortFunc_none Lay.sortE none 0 (.func (.func 68) #[] #[]) W
  change ∀ W, Calls Try.prog 67 _ _ _ at hs
  have HS := Lib.hid hs
  have HB := Lib.hid hbase
  clear hs hbase
  have hb := (br w).mono HB.out
  have HBW := Lib.hid hb
  clear hb
  go_enter Try.func58, Try.ntmps58
  go_wp2_with fail
  refine (HS.out _).mono ?_
  rintro en w1 ⟨rfl, rfl⟩
  go_wp2
  refine wp_loop_rounds 1 ?_
  rw [rounds_succ]
  go_wp2
  go_ret
  exact ⟨rfl, HBW.out.alloc HB.out _⟩
/-- the edges of whatever own slice are swept -/
theorem sweep_own (v : Value) (base g : Nat) (want : Int → Int → Bool) (xs : List Ed) (w : World) (h : ROwn elE w base v xs) (hn : xs.length ≤ 300) (hs : Small xs) (hw : WantAt g want) (hbase : base ≤ w.heap.size) :
    Calls Try.prog 58 #[v, .func (.func g) #[] #[]] w fun e w' => ∃ u ys, e = .returned u ∧ ys.Perm xs ∧ Ris ys ∧ ROwn elS w' base u (sweepL want ys 0 0 false []) ∧ Below base w w' := by
  by_cases hz : ∃ a c, v = .slice (some a) xs.length c
  · obtain ⟨a, c, rfl⟩ := hz
    obtain ⟨hl, ⟨h1, _⟩ | ⟨g', cap, cur, h1, h2⟩⟩ := id h
    · cases h1
    · injection h1 with e1 e2 e3
      injection e1 with e1
      subst e1 e3
      exact sweep_walk g' c base g want xs w h hn hs hw hbase
  · obtain ⟨_, ⟨rfl, h0⟩ | ⟨g', cap, cur, h1, h2⟩⟩ := id h
    · have hx : xs = [] := List.eq_nil_of_length_eq_zero h0
      subst hx
      refine (sweep_nil g base w hbase).mono ?_
      rintro e w' ⟨rfl, hb⟩
      exact ⟨_, [], rfl, List.Perm.refl _, trivial, ROwn.nil _ _, hb⟩
    · exact absurd ⟨_, _, h1⟩ hz
theorem small_edges (f s : Int) (hf : -1 ≤ f ∧ f ≤ 1) (hs : -1 ≤ s ∧ s ≤ 1) : ∀ l : List Sp, Small (edgesOf f s l)
  | [] => fun e he => by simp [edgesOf] at he
  | p :: l => fun e he => by
    rw [edges_cons] at he
    rcases List.mem_cons.1 he with rfl | he
    · exact ⟨hf, hs⟩
    · rcases List.mem_cons.1 he with rfl | he
      · exact ⟨⟨by show -1 ≤ -f; omega, by show -f ≤ 1; omega⟩, by show -1 ≤ -s; omega, by show -s ≤ 1; omega⟩
      · exact small_edges f s hf hs l e he
set_option maxHeartbeats 1000000 in
theorem want_union : WantAt 54 (wnt 0) := by
  refine ⟨enters_of Try.func54 (by kernel_rfl) rfl, fun f s W h h9 => ?_⟩
  change Calls Try.prog 54 #[.int .i64 f, .int .i64 s] W fun e w' => e = .returned (.bool (wnt 0 f s)) ∧ W = w'
  obtain ⟨h1, h2⟩ := h; obtain ⟨h3, h4⟩ := h9
  go_enter Try.func54, Try.ntmps54
  go_wp2
  go_ret
  exact ⟨rfl, rfl⟩
set_option maxHeartbeats 1000000 in
theorem want_minus : WantAt 46 (wnt 2) := by
  refine ⟨enters_of Try.func46 (by kernel_rfl) rfl, fun f s W h h9 => ?_⟩
  change Calls Try.prog 46 #[.int .i64 f, .int .i64 s] W fun e w' => e = .returned (.bool (wnt 2 f s)) ∧ W = w'
  clear h h9
  have e : wnt 2 f s = (decide (0 < f) && decide (s = 0)) := rfl
  rw [e]
  by_cases c : 0 < f
  · by_cases d : s = 0
    · have hd : (s == 0) = true := by simp [d]
      go_enter Try.func46, Try.ntmps46
      go_wp2
      go_ret
      exact ⟨by simp [c, d], rfl⟩
    · have hd : (s == 0) = false := by simp [d]
      go_enter Try.func46, Try.ntmps46
      go_wp2
      go_ret
      exact ⟨by simp [c, d], rfl⟩
  · go_enter Try.func46, Try.ntmps46
    go_wp2
    go_ret
    exact ⟨by simp [c]; try (intros; omega), rfl⟩
/-- Of spans: its error -/
def ofL : List Sp → Int
  | [] => 0
  | s :: l => if ¬ isN s then 3 else if s.2 < s.1 then 1 else ofL l
def ofE (l : List Sp) : Int := if 64 < l.length then 2 else ofL l
def ofR (l : List Sp) : List Sp := if ofE l = 0 then byL 0 l [] else []
theorem ofL_ok : ∀ l : List Sp, ofL l = 0 ↔ ∀ s ∈ l, isN s ∧ s.1 ≤ s.2
  | [] => by simp [ofL]
  | s :: l => by
    have ih := ofL_ok l
    unfold ofL
    by_cases h : isN s
    · rw [if_neg (fun g => g h)]
      by_cases h2 : s.2 < s.1
      · rw [if_pos h2]
        exact ⟨fun g => by omega, fun g => by have := (g s (by simp)).2; omega⟩
      · rw [if_neg h2, ih]
        constructor
        · intro g t ht
          rcases List.mem_cons.1 ht with rfl | ht
          · exact ⟨h, by omega⟩
          · exact g t ht
        · exact fun g t ht => g t (by simp [ht])
    · rw [if_pos h]
      exact ⟨fun g => by omega, fun g => absurd (g s (by simp)).1 h⟩
theorem ofE_ok (l : List Sp) : ofE l = 0 ↔ l.length ≤ 64 ∧ ∀ s ∈ l, isN s ∧ s.1 ≤ s.2 := by
  unfold ofE
  by_cases h : 64 < l.length
  · rw [if_pos h]; exact ⟨fun g => by omega, fun g => by omega⟩
  · rw [if_neg h, ofL_ok]; exact ⟨fun g => ⟨by omega, g⟩, fun g => g.2⟩
theorem of_sweep (l : List Sp) (hl : ∀ s ∈ l, s.1 ≤ s.2) (ys : List Ed) (hp : ys.Perm (edgesOf 1 0 l)) (hr : Ris ys) : sweepL (fun n _ => decide (0 < n)) ys 0 0 false [] = byL 0 l [] := by
  obtain ⟨h1, h2⟩ := sweep_two (fun n _ => decide (0 < n)) l [] ys hl (by simp) (by simpa [edgesOf] using hp) hr rfl
  obtain ⟨g1, g2⟩ := byL_is 0 l []
  refine canon_unique h1 g1 (fun n => ?_)
  rw [h2, g2]
  have : opB 0 (has l n) (has [] n) = has l n := by simp [opB, has]
  rw [this, ← opn_pos]; simp
abbrev PairQ (xs : List Sp) (er : Int) (w : World) (e : Ending) (w' : World) : Prop := ∃ u, e = .returned (.tuple #[u, .int .i64 er]) ∧ ROwn elS w' w.heap.size u xs ∧ Below w.heap.size w w'
end Sn
end Go.Proofs.Ytcgncmlldjblmaa
