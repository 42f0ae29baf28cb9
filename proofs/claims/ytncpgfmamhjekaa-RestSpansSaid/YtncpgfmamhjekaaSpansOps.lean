/- Sets of days: Of, Union, Meet, Minus. -/
import Derived.Test.YtncpgfmamhjekaaSpansSweep
import Derived.Test.YtncpgfmamhjekaaSpansPlain2
import Derived.Shelf.SlSortCmp.NoneTotal
set_option linter.unusedSimpArgs false
set_option linter.unusedVariables false
namespace Go.Proofs.Ytncpgfmamhjekaa
open Go.RowKit
namespace Sn
set_option maxHeartbeats 1000000 in
theorem sweep_nil (g base : Nat) (w : World) (hbase : base ≤ w.heap.size) :
    Calls Try.prog 26 #[.slice none 0 0, .func (.func g) #[] #[]] w fun e w' => e = .returned (.slice none 0 0) ∧ Below base w w' := by
  have hs := fun W => AnyF.slices_SortFunc_none Lay.sortE none 0 (.func (.func 39) #[] #[]) W
  change ∀ W, Calls Try.prog 38 _ _ _ at hs
  have HS := Lib.hid hs
  have HB := Lib.hid hbase
  clear hs hbase
  have hb := (br w).mono HB.out
  have HBW := Lib.hid hb
  clear hb
  go_enter Try.func26, Try.ntmps26
  go_wp2_with fail
  refine (HS.out _).mono ?_
  rintro en w1 ⟨rfl, rfl⟩
  go_wp2
  refine wp_loop_rounds 1 ?_
  rw [rounds_succ]
  go_wp2
  go_ret
  exact ⟨rfl, HBW.out.alloc HB.out _⟩
/-- the edges of whatever own slice are swept -/
theorem sweep_own (v : Value) (base g : Nat) (want : Int → Int → Bool) (xs : List Ed) (w : World) (h : ROwn elE w base v xs) (hn : xs.length ≤ 300) (hs : Small xs) (hw : WantAt g want) (hbase : base ≤ w.heap.size) :
    Calls Try.prog 26 #[v, .func (.func g) #[] #[]] w fun e w' => ∃ u ys, e = .returned u ∧ ys.Perm xs ∧ Ris ys ∧ ROwn elS w' base u (sweepL want ys 0 0 false []) ∧ Below base w w' := by
  by_cases hz : ∃ a c, v = .slice (some a) xs.length c
  · obtain ⟨a, c, rfl⟩ := hz
    obtain ⟨hl, ⟨h1, _⟩ | ⟨g', cap, cur, h1, h2⟩⟩ := id h
    · cases h1
    · injection h1 with e1 e2 e3
      injection e1 with e1
      subst e1 e3
      exact sweep_walk g' c base g want xs w h hn hs hw hbase
  · obtain ⟨_, ⟨rfl, h0⟩ | ⟨g', cap, cur, h1, h2⟩⟩ := id h
    · have hx : xs = [] := List.eq_nil_of_length_eq_zero h0
      subst hx
      refine (sweep_nil g base w hbase).mono ?_
      rintro e w' ⟨rfl, hb⟩
      exact ⟨_, [], rfl, List.Perm.refl _, trivial, ROwn.nil _ _, hb⟩
    · exact absurd ⟨_, _, h1⟩ hz
theorem small_edges (f s : Int) (hf : -1 ≤ f ∧ f ≤ 1) (hs : -1 ≤ s ∧ s ≤ 1) : ∀ l : List Sp, Small (edgesOf f s l)
  | [] => fun e he => by simp [edgesOf] at he
  | p :: l => fun e he => by
    rw [edges_cons] at he
    rcases List.mem_cons.1 he with rfl | he
    · exact ⟨hf, hs⟩
    · rcases List.mem_cons.1 he with rfl | he
      · exact ⟨⟨by show -1 ≤ -f; omega, by show -f ≤ 1; omega⟩, by show -1 ≤ -s; omega, by show -s ≤ 1; omega⟩
      · exact small_edges f s hf hs l e he
set_option maxHeartbeats 1000000 in
theorem want_of : WantAt 28 (fun n _ => decide (0 < n)) := by
  refine ⟨enters_of Try.func28 (by kernel_rfl) rfl, fun f s W h h9 => ?_⟩
  change Calls Try.prog 28 #[.int .i64 f, .int .i64 s] W fun e w' => e = .returned (.bool (decide (0 < f))) ∧ W = w'
  clear h h9
  go_enter Try.func28, Try.ntmps28
  go_wp2
  go_ret
  exact ⟨rfl, rfl⟩
set_option maxHeartbeats 1000000 in
theorem want_union : WantAt 35 (wnt 0) := by
  refine ⟨enters_of Try.func35 (by kernel_rfl) rfl, fun f s W h h9 => ?_⟩
  change Calls Try.prog 35 #[.int .i64 f, .int .i64 s] W fun e w' => e = .returned (.bool (wnt 0 f s)) ∧ W = w'
  obtain ⟨h1, h2⟩ := h; obtain ⟨h3, h4⟩ := h9
  go_enter Try.func35, Try.ntmps35
  go_wp2
  go_ret
  exact ⟨rfl, rfl⟩
set_option maxHeartbeats 1000000 in
theorem want_meet : WantAt 36 (wnt 1) := by
  refine ⟨enters_of Try.func36 (by kernel_rfl) rfl, fun f s W h h9 => ?_⟩
  change Calls Try.prog 36 #[.int .i64 f, .int .i64 s] W fun e w' => e = .returned (.bool (wnt 1 f s)) ∧ W = w'
  clear h h9
  have e : wnt 1 f s = (decide (0 < f) && decide (0 < s)) := rfl
  rw [e]
  by_cases c : 0 < f
  all_goals
    go_enter Try.func36, Try.ntmps36
    go_wp2
    go_ret
    exact ⟨by simp [c]; try (intros; omega), rfl⟩
set_option maxHeartbeats 1000000 in
theorem want_minus : WantAt 37 (wnt 2) := by
  refine ⟨enters_of Try.func37 (by kernel_rfl) rfl, fun f s W h h9 => ?_⟩
  change Calls Try.prog 37 #[.int .i64 f, .int .i64 s] W fun e w' => e = .returned (.bool (wnt 2 f s)) ∧ W = w'
  clear h h9
  have e : wnt 2 f s = (decide (0 < f) && decide (s = 0)) := rfl
  rw [e]
  by_cases c : 0 < f
  · by_cases d : s = 0
    · have hd : (s == 0) = true := by simp [d]
      go_enter Try.func37, Try.ntmps37
      go_wp2
      go_ret
      exact ⟨by simp [c, d], rfl⟩
    · have hd : (s == 0) = false := by simp [d]
      go_enter Try.func37, Try.ntmps37
      go_wp2
      go_ret
      exact ⟨by simp [c, d], rfl⟩
  · go_enter Try.func37, Try.ntmps37
    go_wp2
    go_ret
    exact ⟨by simp [c]; try (intros; omega), rfl⟩
/-- Of spans: its error -/
def ofL : List Sp → Int
  | [] => 0
  | s :: l => if ¬ isN s then 3 else if s.2 < s.1 then 1 else ofL l
def ofE (l : List Sp) : Int := if 64 < l.length then 2 else ofL l
def ofR (l : List Sp) : List Sp := if ofE l = 0 then byL 0 l [] else []
theorem ofL_ok : ∀ l : List Sp, ofL l = 0 ↔ ∀ s ∈ l, isN s ∧ s.1 ≤ s.2
  | [] => by simp [ofL]
  | s :: l => by
    have ih := ofL_ok l
    unfold ofL
    by_cases h : isN s
    · rw [if_neg (fun g => g h)]
      by_cases h2 : s.2 < s.1
      · rw [if_pos h2]
        exact ⟨fun g => by omega, fun g => by have := (g s (by simp)).2; omega⟩
      · rw [if_neg h2, ih]
        constructor
        · intro g t ht
          rcases List.mem_cons.1 ht with rfl | ht
          · exact ⟨h, by omega⟩
          · exact g t ht
        · exact fun g t ht => g t (by simp [ht])
    · rw [if_pos h]
      exact ⟨fun g => by omega, fun g => absurd (g s (by simp)).1 h⟩
theorem ofE_ok (l : List Sp) : ofE l = 0 ↔ l.length ≤ 64 ∧ ∀ s ∈ l, isN s ∧ s.1 ≤ s.2 := by
  unfold ofE
  by_cases h : 64 < l.length
  · rw [if_pos h]; exact ⟨fun g => by omega, fun g => by omega⟩
  · rw [if_neg h, ofL_ok]; exact ⟨fun g => ⟨by omega, g⟩, fun g => g.2⟩
theorem of_sweep (l : List Sp) (hl : ∀ s ∈ l, s.1 ≤ s.2) (ys : List Ed) (hp : ys.Perm (edgesOf 1 0 l)) (hr : Ris ys) : sweepL (fun n _ => decide (0 < n)) ys 0 0 false [] = byL 0 l [] := by
  obtain ⟨h1, h2⟩ := sweep_two (fun n _ => decide (0 < n)) l [] ys hl (by simp) (by simpa [edgesOf] using hp) hr rfl
  obtain ⟨g1, g2⟩ := byL_is 0 l []
  refine canon_unique h1 g1 (fun n => ?_)
  rw [h2, g2]
  have : opB 0 (has l n) (has [] n) = has l n := by simp [opB, has]
  rw [this, ← opn_pos]; simp
abbrev PairQ (xs : List Sp) (er : Int) (w : World) (e : Ending) (w' : World) : Prop := ∃ u, e = .returned (.tuple #[u, .int .i64 er]) ∧ ROwn elS w' w.heap.size u xs ∧ Below w.heap.size w w'
set_option maxRecDepth 100000 in
set_option maxHeartbeats 4000000 in
theorem of_any (v : Value) (l : List Sp) (w : World) (h : RdE elS w v l) : Calls Try.prog 10 #[v] w (PairQ (ofR l) (ofE l) w) := by
  have hle := h.len_le
  have HV := Lib.hid h
  obtain ⟨a, cap, rfl, h1, h2, h3⟩ := h
  have H3 := Lib.hid h3; clear h3
  by_cases c0 : 64 < l.length
  · have hF : ofE l = 2 := by unfold ofE; rw [if_pos c0]
    have hG : ofR l = [] := by unfold ofR; rw [if_neg (by omega)]
    rw [hF, hG]
    have hq : (64 : Int) < (l.length : Int) := by omega
    clear hF hG c0 H3
    go_enter Try.func10, Try.ntmps10
    go_wp2
    go_ret2
    exact ⟨_, rfl, ROwn.nil _ _, br _⟩
  have hq : ¬ (64 : Int) < (l.length : Int) := by omega
  have hF : ofE l = ofL (l.drop 0) := by unfold ofE; rw [if_neg c0]; rfl
  have HF := Lib.hid hF
  clear hF
  have C1 := Lib.hid (fun w' (h : RdE elS w' (.slice a l.length cap) l) => edges_any _ l 1 0 w' h (by omega) (by omega) (by omega))
  have C2 := Lib.hid (fun (hs : ∀ s ∈ l, s.1 ≤ s.2) u w' base (h : ROwn elE w' base u (edgesOf 1 0 l)) (hb : base ≤ w'.heap.size) => (sweep_own u base 28 (fun n _ => decide (0 < n)) _ w' h (by rw [edges_len]; omega) (small_edges 1 0 (by omega) (by omega) l) want_of hb).mono (R' := fun e w2 => ∃ u2, e = .returned u2 ∧ ROwn elS w2 base u2 (byL 0 l []) ∧ Below base w' w2) (fun e w2 hx => by obtain ⟨u2, ys, g1, g2, g3, g4, g5⟩ := hx; exact ⟨u2, g1, by rw [of_sweep l hs ys g2 g3] at g4; exact g4, g5⟩))
  go_enter Try.func10, Try.ntmps10
  go_wp2
  go_loopw [11] (fun i wr => ∃ k : Nat, k ≤ l.length ∧ i = .int .i64 k ∧ ofE l = ofL (l.drop k) ∧ Below w.heap.size w wr) (fun i _ => l.length - (intOf i).toNat)
  case atStart => exact ⟨0, Nat.zero_le _, rfl, HF.out, br _⟩
  case round =>
    obtain ⟨k, hk, rfl, hch, hbw⟩ := hrel
    have HBW := Lib.hid hbw
    by_cases hlt : k < l.length
    · obtain ⟨g, off, rfl, hbl, hc⟩ := H3.out (by omega)
      obtain ⟨q0, q1⟩ := eS_at hc k hlt
      have d0 := (hbw.cell (p := ⟨g, off + k * 2, none⟩) hbl).trans q0
      have d1 := (hbw.cell (p := ⟨g, off + k * 2 + 1, none⟩) hbl).trans q1
      have i1 : (k : Int) < (l.length : Int) := by omega
      have i0 : (0 : Int) ≤ (k : Int) := by omega
      have hst : ofL (l.drop k) = if ¬ isN l[k] then 3 else if l[k].2 < l[k].1 then 1 else ofL (l.drop (k + 1)) := by
        rw [List.drop_eq_getElem_cons hlt]; rfl
      rw [hst] at hch
      have HNB := Lib.hid (numbers_any l[k])
      have HBA := Lib.hid (hbw.alloc (by have := hbw.size; exact this) (.cells #[.int .i64 l[k].1, .int .i64 l[k].2] 39))
      have hbx := Box.new wr 39 [.int .i64 l[k].1, .int .i64 l[k].2]
      have HBX := Lib.hid hbx
      clear hc q0 q1 hbw hbx H3 hst C1 C2 HV
      obtain ⟨s, hs⟩ : ∃ s, l[k] = s := ⟨_, rfl⟩
      rw [hs] at d0 d1 hch HNB HBA HBX
      clear hs
      obtain ⟨p, q⟩ := s
      simp only at d0 d1 hch HNB HBA HBX
      by_cases c1 : isN (p, q)
      · rw [if_neg (fun h => h c1)] at hch
        have hdc : decide (isN (p, q)) = true := decide_eq_true c1
        rw [hdc] at HNB
        clear hdc c1
        by_cases c2 : q < p
        · rw [if_pos c2] at hch
          have hG : ofR l = [] := by unfold ofR; rw [if_neg (by omega)]
          have HCH := Lib.hid hch
          have HG := Lib.hid hG
          clear hch hG
          go_wp2_with fail
          refine (HNB.out _).mono ?_
          rintro en w2 ⟨rfl, b2⟩
          have d0 := (HBX.out.next b2).cell 0; have d1 := (HBX.out.next b2).cell 1
          simp only [List.getElem?_cons_zero, List.getElem?_cons_succ] at d0 d1
          have HB2 := Lib.hid (bt HBA.out b2)
          clear b2
          go_wp2
          go_ret2
          exact ⟨_, by rw [HCH.out]; rfl, by rw [HG.out]; exact ROwn.nil _ _, HB2.out⟩
        rw [if_neg c2] at hch
        have HCH := Lib.hid hch
        clear hch
        go_wp2_with fail
        refine (HNB.out _).mono ?_
        rintro en w2 ⟨rfl, b2⟩
        have d0 := (HBX.out.next b2).cell 0; have d1 := (HBX.out.next b2).cell 1
        simp only [List.getElem?_cons_zero, List.getElem?_cons_succ] at d0 d1
        have HB2 := Lib.hid (bt HBA.out b2)
        clear b2
        go_wp2
        go_roundw
        case rel => exact ⟨k + 1, by omega, by go_num, HCH.out, HB2.out⟩
        case measure => simp [intOf]; omega
      · rw [if_pos c1] at hch
        have hdc : decide (isN (p, q)) = false := decide_eq_false c1
        rw [hdc] at HNB
        have hG : ofR l = [] := by unfold ofR; rw [if_neg (by omega)]
        have HG := Lib.hid hG
        have HCH := Lib.hid hch
        clear hch hdc c1 hG
        go_wp2_with fail
        refine (HNB.out _).mono ?_
        rintro en w2 ⟨rfl, b2⟩
        have HB2 := Lib.hid (bt HBA.out b2)
        clear b2
        go_wp2
        go_ret2
        exact ⟨_, by rw [HCH.out]; rfl, by rw [HG.out]; exact ROwn.nil _ _, HB2.out⟩
    · have hch2 : ofE l = 0 := by rw [hch, List.drop_eq_nil_of_le (by omega)]; rfl
      have hG : ofR l = byL 0 l [] := by unfold ofR; rw [if_pos hch2]
      have hall : ∀ s ∈ l, s.1 ≤ s.2 := fun s hs => (((ofE_ok l).1 hch2).2 s hs).2
      have D2 := Lib.hid (C2.out hall)
      have HCH := Lib.hid hch2
      have HG := Lib.hid hG
      have C1' := C1.out wr (HV.out.below hbw)
      have HC1 := Lib.hid C1'
      clear hch hch2 H3 C2 C1 hall hG HV HF C1'
      generalize byL 0 l [] = res at *
      generalize edgesOf 1 0 l = eds at *
      go_wp2_with fail
      refine HC1.out.mono ?_
      rintro en w2 ⟨u2, rfl, ho2, b2⟩
      have HD2 := Lib.hid (D2.out u2 w2 _ ho2 b2.size)
      have HB2 := Lib.hid b2
      clear ho2 b2 D2 HC1
      go_wp2_with fail
      refine HD2.out.mono ?_
      rintro en w3 ⟨u3, rfl, ho3, b3⟩
      have HO3 := Lib.hid ho3; have HB3 := Lib.hid b3
      clear ho3 b3
      go_wp2
      go_ret2
      have hsz := HBW.out.size
      exact ⟨_, by rw [HCH.out]; rfl, by rw [HG.out]; exact HO3.out.base hsz, HBW.out.trans ((HB2.out.trans HB3.out).mono hsz)⟩
end Sn
end Go.Proofs.Ytncpgfmamhjekaa
