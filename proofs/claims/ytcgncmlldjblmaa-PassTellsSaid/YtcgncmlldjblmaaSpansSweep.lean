/- Sets of days: the sweep. -/
import Derived.Test.YtcgncmlldjblmaaSpansSort
import Derived.Laws.OwnMore
import Derived.BigQuiet
import Derived.RangeFuncNested
set_option linter.unusedSimpArgs false
set_option linter.unusedVariables false
namespace Go.Proofs.Ytcgncmlldjblmaa
open Go.RowKit
namespace Sn
theorem flat_setTo (C : List Sp) (s : Sp) (v : Int) : ((C ++ [s]).flatMap eS).set (C.length * 2 + 1) (.int .i64 v) = (C ++ [(s.1, v)]).flatMap eS := by
  have hl := elS.flat_len C
  rw [List.flatMap_append, List.flatMap_append, List.set_append_right _ _ (by show (C.flatMap elS.enc).length ≤ _; rw [hl]; show C.length * 2 ≤ _; omega)]
  show _ ++ _ = _
  congr 1
  rw [show (C.flatMap eS).length = C.length * 2 from hl, show C.length * 2 + 1 - C.length * 2 = 1 by omega]
  simp [eS]
theorem own_shape {α : Type} {E : El α} {w : World} {base : Nat} {v : Value} {xs : List α} (h : ROwn E w base v xs) : ∃ a c, v = .slice a xs.length c := by
  obtain ⟨_, ⟨rfl, h⟩ | ⟨g, cap, cur, rfl, _⟩⟩ := h
  · exact ⟨none, 0, by rw [h]⟩
  · exact ⟨_, _, rfl⟩
theorem own_some {α : Type} {E : El α} {w : World} {base : Nat} {v : Value} {xs : List α} (h : ROwn E w base v xs) (hn : 0 < xs.length) : ∃ g c, v = .slice (some ⟨g, 0, none⟩) xs.length c ∧ base ≤ g := by
  obtain ⟨_, ⟨rfl, h⟩ | ⟨g, cap, cur, rfl, h2, _⟩⟩ := h
  · omega
  · exact ⟨_, _, rfl, h2⟩
/-- the last one's end is told -/
theorem own_setTo {w : World} {base g c : Nat} {out : List Sp} (h : ROwn elS w base (.slice (some ⟨g, 0, none⟩) out.length c) out) (hn : 0 < out.length) (x : Int) :
    ROwn elS (w.setCell ⟨g, (out.length - 1) * 2 + 1, none⟩ (.int .i64 x)) base (.slice (some ⟨g, 0, none⟩) out.length c) (setTo out x) ∧ (setTo out x).length = out.length := by
  obtain ⟨C, s, rfl⟩ : ∃ C s, out = C ++ [s] := by
    exact ⟨out.dropLast, out.getLast (by intro e; rw [e] at hn; simp at hn), (List.dropLast_concat_getLast _).symm⟩
  rw [setTo_snoc]
  have h1 := (World.ownsRow.stored h ((C ++ [s]).length - 1) |> fun _ => h.stored (((C ++ [s]).length - 1) * 2 + 1) (.int .i64 x)).1
  have hl : (C ++ [s]).length - 1 = C.length := by simp
  rw [hl] at h1 ⊢
  rw [show ((C ++ [s]).flatMap elS.enc) = (C ++ [s]).flatMap eS from rfl, flat_setTo] at h1
  have e : (C ++ [(s.1, x)]).length = (C ++ [s]).length := by simp
  refine ⟨?_, e⟩
  show World.ownsRow _ _ _ _ _ _ _
  rw [e]
  exact h1
theorem gset (w : World) (b j : Nat) (v : Value) : w.grownBy (w.setCell ⟨b, j, none⟩ v) (some b) := ⟨rfl, rfl, rfl, by simp, fun k _ hk => Below.heap_setCell _ _ _ _ (fun e => hk (by rw [e]))⟩
theorem rd_eq {α : Type} {E : El α} {w w' : World} {blk n c : Nat} {xs : List α} (h : RdE E w (.slice (some ⟨blk, 0, none⟩) n c) xs) (hb : w'.heap[blk]? = w.heap[blk]?) (hs : w.heap.size ≤ w'.heap.size) : RdE E w' (.slice (some ⟨blk, 0, none⟩) n c) xs := by
  obtain ⟨a, cap, e, h1, h2, h3⟩ := h
  refine ⟨a, cap, e, h1, h2, fun hn => ?_⟩
  obtain ⟨b, off, e2, hlt, hc⟩ := h3 hn
  injection e with e3 _ _
  rw [e2] at e3
  injection e3 with e3
  injection e3 with e6 e7
  subst e6
  exact ⟨blk, off, e2, by omega, fun i hi j' u hu => (World.cell?_of_block (a := ⟨blk, off + (i * E.k + j'), none⟩) hb).trans (hc i hi j' u hu)⟩
/-- a slice reads on where another block is stored into -/
theorem rd_other {α : Type} {E : El α} {w : World} {blk n c B j : Nat} {v : Value} {xs : List α} (h : RdE E w (.slice (some ⟨blk, 0, none⟩) n c) xs) (hne : blk ≠ B) : RdE E (w.setCell ⟨B, j, none⟩ v) (.slice (some ⟨blk, 0, none⟩) n c) xs := by
  obtain ⟨a, cap, e, h1, h2, h3⟩ := h
  refine ⟨a, cap, e, h1, h2, fun hn => ?_⟩
  obtain ⟨b, off, e2, hlt, hc⟩ := h3 hn
  injection e with e3 _ _
  rw [e2] at e3
  injection e3 with e3
  injection e3 with e6 e7
  subst e6
  exact ⟨blk, off, e2, by rw [World.size_setCell]; exact hlt, fun i hi j' u hu => by
    rw [World.cell?_setCell_other w _ _ _ (by intro e; injection e; omega)]; exact hc i hi j' u hu⟩
theorem rd_block {α : Type} {E : El α} {w : World} {blk n c : Nat} {xs : List α} (h : RdE E w (.slice (some ⟨blk, 0, none⟩) n c) xs) (hn : 0 < xs.length) : blk < w.heap.size := by
  obtain ⟨a, cap, e, h1, h2, h3⟩ := h
  obtain ⟨b, off, e2, hlt, hc⟩ := h3 hn
  injection e with e3 _ _
  rw [e2] at e3
  injection e3 with e3
  injection e3 with e6 e7
  subst e6; exact hlt
theorem rd_cells {w : World} {blk n c : Nat} {xs : List Ed} (h : RdE elE w (.slice (some ⟨blk, 0, none⟩) n c) xs) (i : Nat) (hi : i < xs.length) : w.cell? ⟨blk, i * 3, none⟩ = some (.int .i64 xs[i].at_) := by
  obtain ⟨a, cap, e, h1, h2, h3⟩ := h
  obtain ⟨b, off, e2, hlt, hc⟩ := h3 (by omega)
  injection e with e3 _ _
  rw [e2] at e3
  injection e3 with e3
  injection e3 with e6 e7
  subst e6 e7
  have := (eE_at hc i hi).1
  rw [Nat.zero_add] at this
  exact this
theorem sweepL_more (want : Int → Int → Bool) (e : Ed) (l : List Ed) (F S : Int) (on : Bool) (out : List Sp) (h : more e l = true) : sweepL want (e :: l) F S on out = sweepL want l (F + e.first) (S + e.second) on out := by
  show (if _ then _ else _) = _
  rw [if_pos h]
theorem sweepL_step (want : Int → Int → Bool) (e : Ed) (l : List Ed) (F S : Int) (on now : Bool) (out out' : List Sp) (h : more e l = false) (hn : want (F + e.first) (S + e.second) = now) (ho : sweepStep want e (F + e.first) (S + e.second) on out = out') : sweepL want (e :: l) F S on out = sweepL want l (F + e.first) (S + e.second) now out' := by
  show (if _ then _ else _) = _
  rw [if_neg (by rw [h]; simp), hn, ho]
/-- what a predicate on counts is to do -/
def WantAt (g : Nat) (want : Int → Int → Bool) : Prop := (∀ args w, (callFunc g args).run Try.prog w = .ok (.enter g args) w) ∧ ∀ (f s : Int) (W : World), -1000 ≤ f ∧ f ≤ 1000 → -1000 ≤ s ∧ s ≤ 1000 → Calls Try.prog g #[.int .i64 f, .int .i64 s] W fun e w' => e = .returned (.bool (want f s)) ∧ W = w'
theorem sweep_len (want : Int → Int → Bool) (e : Ed) (f s : Int) (on : Bool) (out : List Sp) : (sweepStep want e f s on out).length ≤ out.length + 1 := by
  unfold sweepStep
  split
  · simp
  · split
    · unfold setTo
      split
      · simp; try omega
      · omega
    · omega
/-- in bounds -/
def Small (l : List Ed) : Prop := ∀ e ∈ l, (-1 ≤ e.first ∧ e.first ≤ 1) ∧ -1 ≤ e.second ∧ e.second ≤ 1
theorem tot_bd (l : List Ed) (h : Small l) : (-(l.length : Int) ≤ tot Ed.first l ∧ tot Ed.first l ≤ l.length) ∧ -(l.length : Int) ≤ tot Ed.second l ∧ tot Ed.second l ≤ l.length := by
  induction l with
  | nil => simp [tot]
  | cons e l ih =>
    have h1 := h e (by simp)
    have h2 := ih (fun x hx => h x (by simp [hx]))
    simp only [tot, List.length_cons]
    omega
set_option maxRecDepth 100000 in
set_option maxHeartbeats 8000000 in
theorem sweep_walk (blk cap base g : Nat) (want : Int → Int → Bool) (xs : List Ed) (w : World) (h : ROwn elE w base (.slice (some ⟨blk, 0, none⟩) xs.length cap) xs) (hn : xs.length ≤ 300) (hs : Small xs) (hw : WantAt g want) (hbase : base ≤ w.heap.size) :
    Calls Try.prog 58 #[.slice (some ⟨blk, 0, none⟩) xs.length cap, .func (.func g) #[] #[]] w fun e w' => ∃ u ys, e = .returned u ∧ ys.Perm xs ∧ Ris ys ∧ ROwn elS w' base u (sweepL want ys 0 0 false []) ∧ Below base w w' := by
  have eg := hw.1
  have HW := Lib.hid hw.2
  have CS := Lib.hid (sort_any blk cap base xs w h (by omega))
  have HSM := Lib.hid hs
  clear hw hs h
  go_enter Try.func58, Try.ntmps58
  go_wp2_with fail
  refine CS.out.mono ?_
  rintro en w1 ⟨rfl, ys, hp, hr, hrd, hb1⟩
  have hyl : ys.length = xs.length := hp.length_eq
  have hys : Small ys := fun e he => HSM.out e (hp.subset he)
  have HSY := Lib.hid hys; have HP := Lib.hid hp; have HRI := Lib.hid hr; have HB1 := Lib.hid hb1
  have HRD := Lib.hid hrd
  clear hys hp hr hb1 hrd HSM CS
  go_wp2
  have bO := Box.new w1 87 [.int .i64 0, .int .i64 0, .int .i64 0]
  have HBO := Lib.hid bO
  clear bO
  go_loopw [5, 7, 15] (fun u o i wr => ∃ (k : Nat) (out : List Sp) (on : Bool), k ≤ xs.length ∧ i = .int .i64 k ∧ o = .bool on ∧ out.length ≤ k ∧ (on = true → 0 < out.length) ∧ ROwn elS wr (w1.heap.size + 1) u out ∧ Box wr w1.heap.size 87 [.int .i64 0, .int .i64 (tot Ed.first (ys.take k)), .int .i64 (tot Ed.second (ys.take k))] ∧
      RdE elE wr (.slice (some ⟨blk, 0, none⟩) xs.length cap) ys ∧ Below base w wr ∧ w1.heap.size < wr.heap.size ∧ sweepL want ys 0 0 false [] = sweepL want (ys.drop k) (tot Ed.first (ys.take k)) (tot Ed.second (ys.take k)) on out) (fun _ _ i _ => xs.length - (intOf i).toNat)
  case atStart => exact ⟨0, [], false, Nat.zero_le _, rfl, rfl, Nat.le_refl _, fun h => by simp at h, ROwn.nil _ _, HBO.out, HRD.out.below ((br w1).alloc (Nat.le_refl _) _), HB1.out.alloc (by have := HB1.out.size; omega) _, by simp, by simp [tot]⟩
  case round =>
    obtain ⟨k, out, on, hk, rfl, rfl, hol, hon, hown, hbox, hrd, hbw, hsz, hsw⟩ := hrel
    have HOWN := Lib.hid hown; have HBX := Lib.hid hbox; have HOB : RowKit.Hid (∀ g, u5.ownBlock = some g → w1.heap.size < g) := Lib.hid (fun g e => by have := (hown.lt g e).1; omega); have HRD2 := Lib.hid hrd; have HBW := Lib.hid hbw; have HSW := Lib.hid hsw
    by_cases hlt : k < xs.length
    · have hlt' : k < ys.length := by omega
      obtain ⟨a, c, e, g1, g2, g3⟩ := hrd
      obtain ⟨b, off, e2, hbl, hc⟩ := g3 (by omega)
      injection e with e3 e4 e5
      rw [e2] at e3
      injection e3 with e3
      injection e3 with e6 e7
      subst e6 e7
      obtain ⟨q0, q1, q2⟩ := eE_at hc k hlt'
      rw [Nat.zero_add] at q0 q1 q2
      have HC := Lib.hid hc
      have i1 : (k : Int) < (xs.length : Int) := by omega
      have i0 : (0 : Int) ≤ (k : Int) := by omega
      have hb1 := tot_bd (ys.take k) (fun e he => HSY.out e (List.mem_of_mem_take he))
      rw [List.length_take, Nat.min_eq_left (by omega)] at hb1
      have hb2 := HSY.out ys[k] (List.getElem_mem hlt')
      have htk : ∀ gg : Ed → Int, tot gg (ys.take (k + 1)) = tot gg (ys.take k) + gg ys[k] := fun gg => by
        rw [List.take_succ_eq_append_getElem hlt', tot_app]; simp [tot]
      have HTK := Lib.hid htk
      have hdr : ys.drop k = ys[k] :: ys.drop (k + 1) := List.drop_eq_getElem_cons hlt'
      have hsw2 := hsw
      rw [hdr] at hsw2
      have HSW2 := Lib.hid hsw2
      have x0 := hbox.cell 0; have x1 := hbox.cell 1; have x2 := hbox.cell 2
      have y1 := hbox.froz 1; have y2 := hbox.froz 2
      simp only [List.getElem?_cons_zero, List.getElem?_cons_succ] at x0 x1 x2
      have b11 := hb1.1.1; have b12 := hb1.1.2; have b13 := hb1.2.1; have b14 := hb1.2.2
      have b21 := hb2.1.1; have b22 := hb2.1.2; have b23 := hb2.2.1; have b24 := hb2.2.2
      have HYL := Lib.hid hyl
      clear hb1 hb2 htk hdr hsw hsw2 g3 hc hown hbox hbw e2 e4 e5 hyl
      generalize hF : tot Ed.first (ys.take k) = F at *
      generalize hS : tot Ed.second (ys.take k) = S at *
      generalize hek : ys[k] = ek at *
      obtain ⟨at0, ef, es⟩ := ek
      simp only at q0 q1 q2 b21 b22 b23 b24
      have HEK := Lib.hid hek; have HF := Lib.hid hF; have HS := Lib.hid hS
      clear hek hF hS
      have T1 : RowKit.Hid (tot Ed.first (ys.take (k + 1)) = F + ef) := Lib.hid (by rw [HTK.out Ed.first, HF.out])
      have T2 : RowKit.Hid (tot Ed.second (ys.take (k + 1)) = S + es) := Lib.hid (by rw [HTK.out Ed.second, HS.out])
      go_wp2
      have hblk1 := rd_block HRD.out (by rw [HYL.out]; omega)
      have hB : base ≤ w1.heap.size := by have := HB1.out.size; omega
      obtain ⟨Wa, hWa⟩ : ∃ Wa, ((wr.setCell ⟨w1.heap.size, 1, none⟩ (.int .i64 (F + ef))).setCell ⟨w1.heap.size, 2, none⟩ (.int .i64 (S + es))) = Wa := ⟨_, rfl⟩
      have hsa : Wa.heap.size = wr.heap.size := by rw [← hWa, World.size_setCell, World.size_setCell]
      have hba : Box Wa w1.heap.size 87 [.int .i64 0, .int .i64 (F + ef), .int .i64 (S + es)] := by
        rw [← hWa]; exact (HBX.out.set 1 (.int .i64 (F + ef))).set 2 (.int .i64 (S + es))
      have hoa : ROwn elS Wa (w1.heap.size + 1) u5 out := by
        rw [← hWa]
        exact (HOWN.out.kept (gset wr w1.heap.size 1 _) (.inr (fun e => by have := HOB.out _ e; omega))).kept (gset _ w1.heap.size 2 _) (.inr (fun e => by have := HOB.out _ e; omega))
      have hra : RdE elE Wa (.slice (some ⟨blk, 0, none⟩) xs.length cap) ys := by
        rw [← hWa]; exact rd_other (rd_other HRD2.out (by omega)) (by omega)
      have hla : Below base w Wa := by
        rw [← hWa]; exact (HBW.out.setCell (p := ⟨w1.heap.size, 1, none⟩) hB _).setCell (p := ⟨w1.heap.size, 2, none⟩) hB _
      rw [hWa]
      have hal := (br Wa).alloc (Nat.le_refl _) (.cells #[.int .i64 at0, .int .i64 ef, .int .i64 es] 87)
      obtain ⟨W2, hW2⟩ : ∃ W2, Wa.alloc (.cells #[.int .i64 at0, .int .i64 ef, .int .i64 es] 87) = W2 := ⟨_, rfl⟩
      have HB2 : RowKit.Hid (∀ n, Box (W2.drewN n) w1.heap.size 87 [.int .i64 0, .int .i64 (F + ef), .int .i64 (S + es)]) := Lib.hid (fun n => by rw [← hW2]; exact hba.next (bn hal n))
      have HO2 : RowKit.Hid (∀ n, ROwn elS (W2.drewN n) (w1.heap.size + 1) u5 out) := Lib.hid (fun n => by rw [← hW2]; exact hoa.next (bn hal n))
      have HR2 : RowKit.Hid (∀ n, RdE elE (W2.drewN n) (.slice (some ⟨blk, 0, none⟩) xs.length cap) ys) := Lib.hid (fun n => by rw [← hW2]; exact hra.below (bn hal n))
      have HL2 : RowKit.Hid (∀ n, Below base w (W2.drewN n)) := Lib.hid (fun n => by
        rw [← hW2]
        have h9 := hla.alloc (by omega) (.cells #[.int .i64 at0, .int .i64 ef, .int .i64 es] 87)
        exact ⟨h9.os, h9.tape, h9.output, h9.size, h9.block⟩)
      have HZ2 : RowKit.Hid (∀ n, w1.heap.size < (W2.drewN n).heap.size) := Lib.hid (fun n => by rw [← hW2]; show _ < (Wa.alloc _).heap.size; rw [World.size_alloc]; omega)
      have hbe : Box W2 wr.heap.size 87 [.int .i64 at0, .int .i64 ef, .int .i64 es] := by
        rw [← hW2, ← hsa]; exact Box.new Wa _ _
      have ze0 := hbe.cell 0
      simp only [List.getElem?_cons_zero] at ze0
      have HBE := Lib.hid hbe
      have zx := (HB2.out 0).cell
      have zf1 := zx 1; have zf2 := zx 2
      simp only [List.getElem?_cons_zero, List.getElem?_cons_succ] at zf1 zf2
      have zf1 : W2.cell? ⟨w1.heap.size, 1, none⟩ = some (.int .i64 (F + ef)) := zf1
      have zf2 : W2.cell? ⟨w1.heap.size, 2, none⟩ = some (.int .i64 (S + es)) := zf2
      rw [hW2]
      clear hW2 hWa hsa hba hoa hra hla hal hbe zx x0 x1 x2 y1 y2 q0 q1 q2
      by_cases hlast : k + 1 < xs.length
      · have zn := rd_cells (HR2.out 0) (k + 1) (by rw [HYL.out]; exact hlast)
        have zn : W2.cell? ⟨blk, (k + 1) * 3, none⟩ = some (.int .i64 (ys[k + 1]'(by rw [HYL.out]; exact hlast)).at_) := zn
        have hdn : ys.drop (k + 1) = ys[k + 1]'(by rw [HYL.out]; exact hlast) :: ys.drop (k + 2) := List.drop_eq_getElem_cons (by rw [HYL.out]; exact hlast)
        have HDN := Lib.hid hdn
        have il1 : (k : Int) + 1 < (xs.length : Int) := by omega
        have il0 : (0 : Int) ≤ (k : Int) + 1 := by omega
        have hmore : more ⟨at0, ef, es⟩ (ys.drop (k + 1)) = ((ys[k + 1]'(by rw [HYL.out]; exact hlast)).at_ == at0) := by rw [hdn]; rfl
        generalize (ys[k + 1]'(by rw [HYL.out]; exact hlast)).at_ = nx at *
        clear hdn
        by_cases hnx : nx = at0
        · subst hnx
          have HMO : RowKit.Hid (more ⟨nx, ef, es⟩ (ys.drop (k + 1)) = true) := Lib.hid (by rw [hmore]; simp)
          clear hmore
          go_wp2_with fail
          go_quiet (fail)
          go_wp2
          go_roundw
          case rel => exact ⟨k + 1, out, on, by omega, by go_num, rfl, by omega, fun _ => hon (by trivial), HO2.out _, by rw [T1.out, T2.out]; exact HB2.out _, HR2.out _, HL2.out _, HZ2.out _, by rw [HSW2.out, T1.out, T2.out]; exact sweepL_more want ⟨nx, ef, es⟩ _ F S on out HMO.out⟩
          case measure => simp [intOf]; omega
        · have hne : (nx == at0) = false := beq_eq_false_iff_ne.2 hnx
          rw [hne] at hmore
          have HM0 := Lib.hid hmore
          clear hmore hnx
          go_wp2_with fail
          go_quiet (fail)
          have HMO : RowKit.Hid (more ⟨at0, ef, es⟩ (ys.drop (k + 1)) = false) := Lib.hid (HM0.out)
          obtain ⟨now, hnow⟩ : ∃ b, want (F + ef) (S + es) = b := ⟨_, rfl⟩
          obtain ⟨W3, hW3⟩ : ∃ W3, W2.drewN nq = W3 := ⟨_, rfl⟩
          have hb3 := HB2.out nq; have ho3 := HO2.out nq; have hr3 := HR2.out nq; have hl3 := HL2.out nq; have hz3 := HZ2.out nq
          have hbe3 : Box (W2.drewN nq) wr.heap.size 87 [.int .i64 at0, .int .i64 ef, .int .i64 es] := HBE.out
          rw [hW3] at hb3 ho3 hr3 hl3 hz3 hbe3 ⊢
          have y0 := hbe3.cell 0; have y1 := hb3.cell 1; have y2 := hb3.cell 2
          simp only [List.getElem?_cons_zero, List.getElem?_cons_succ] at y0 y1 y2
          have HBE3 := Lib.hid hbe3; have HB3 := Lib.hid hb3; have HO3 := Lib.hid ho3; have HR3 := Lib.hid hr3; have HL3 := Lib.hid hl3; have HZ3 := Lib.hid hz3
          clear hW3 hb3 ho3 hr3 hl3 hz3 hbe3 ze0 zf1 zf2 HBE HB2 HO2 HR2 HL2 HZ2
          have HWN := HW.out (F + ef) (S + es) W3 (by omega) (by omega)
          rw [hnow] at HWN
          have HNOW := Lib.hid hnow
          have HWN := Lib.hid HWN
          clear hnow
          go_wp2_with fail
          refine HWN.out.mono ?_
          rintro en w9 ⟨rfl, rfl⟩
          cases now with
          | false =>
            cases on with
            | false =>
              have HST : RowKit.Hid (sweepStep want ⟨at0, ef, es⟩ (F + ef) (S + es) false out = out) := Lib.hid (by unfold sweepStep; rw [HNOW.out]; rfl)
              go_wp2
              go_roundw
              case rel => exact ⟨k + 1, out, false, by omega, by go_num, rfl, by omega, fun h => by simp at h, HO3.out, by rw [T1.out, T2.out]; exact HB3.out, HR3.out, HL3.out, HZ3.out, by rw [HSW2.out, T1.out, T2.out]; exact sweepL_step want ⟨at0, ef, es⟩ _ F S false false out out HMO.out HNOW.out HST.out⟩
              case measure => simp [intOf]; omega
            | true =>
              obtain ⟨m, hm⟩ : ∃ m, out.length = m + 1 := ⟨out.length - 1, by have := hon (by trivial); omega⟩
              have hpos : 0 < out.length := by omega
              obtain ⟨gg, cc, hu, hgb⟩ := own_some HO3.out hpos
              subst hu
              have HOS := Lib.hid (own_setTo HO3.out hpos at0)
              have HST : RowKit.Hid (sweepStep want ⟨at0, ef, es⟩ (F + ef) (S + es) true out = setTo out at0) := Lib.hid (by unfold sweepStep; rw [HNOW.out]; rfl)
              have hfz := HO3.out.frozenAt (m * 2 + 1)
              have hrdO := HO3.out.rd
              have hcel : ∃ z, W3.cell? ⟨gg, m * 2 + 1, none⟩ = some (.int .i64 z) := by
                obtain ⟨a9, c9, e9, k1, k2, k3⟩ := hrdO
                obtain ⟨b9, o9, e10, k4, k5⟩ := k3 hpos
                injection e9 with e11 _ _
                rw [e10] at e11
                injection e11 with e11
                injection e11 with e12 e13
                subst e12 e13
                have := (eS_at k5 m (by omega)).2
                rw [Nat.zero_add] at this
                exact ⟨_, this⟩
              obtain ⟨z, hz⟩ := hcel
              have HS5 : RowKit.Hid (ROwn elS (W3.setCell ⟨gg, m * 2 + 1, none⟩ (.int .i64 at0)) (w1.heap.size + 1) (.slice (some ⟨gg, 0, none⟩) (m + 1) cc) (setTo out at0) ∧ (setTo out at0).length = m + 1) := Lib.hid (by
                have := HOS.out
                rw [hm, Nat.add_sub_cancel] at this
                exact this)
              have HBX5 : RowKit.Hid (Box (W3.setCell ⟨gg, m * 2 + 1, none⟩ (.int .i64 at0)) w1.heap.size 87 [.int .i64 0, .int .i64 (F + ef), .int .i64 (S + es)]) := Lib.hid (HB3.out.other _ _ _ (by omega))
              have HR5 : RowKit.Hid (RdE elE (W3.setCell ⟨gg, m * 2 + 1, none⟩ (.int .i64 at0)) (.slice (some ⟨blk, 0, none⟩) xs.length cap) ys) := Lib.hid (rd_other HR3.out (by omega))
              have HL5 : RowKit.Hid (Below base w (W3.setCell ⟨gg, m * 2 + 1, none⟩ (.int .i64 at0))) := Lib.hid (HL3.out.setCell (p := ⟨gg, m * 2 + 1, none⟩) (by show base ≤ gg; omega) _)
              have HZ5 : RowKit.Hid (w1.heap.size < (W3.setCell ⟨gg, m * 2 + 1, none⟩ (.int .i64 at0)).heap.size) := Lib.hid (by rw [World.size_setCell]; exact HZ3.out)
              have im0 : (0 : Int) ≤ (m : Int) := by omega
              have im1 : (m : Int) < (m : Int) + 1 := by omega
              rw [hm]
              clear HOS hrdO HOWN HO3
              go_wp2
              go_roundw
              case rel => exact ⟨k + 1, setTo out at0, false, by omega, by go_num, rfl, by rw [HS5.out.2]; omega, fun h => by simp at h, HS5.out.1, by rw [T1.out, T2.out]; exact HBX5.out, HR5.out, HL5.out, HZ5.out, by rw [HSW2.out, T1.out, T2.out]; exact sweepL_step want ⟨at0, ef, es⟩ _ F S true false out _ HMO.out HNOW.out HST.out⟩
              case measure => simp [intOf]; omega
          | true =>
            cases on with
            | true =>
              have HST : RowKit.Hid (sweepStep want ⟨at0, ef, es⟩ (F + ef) (S + es) true out = out) := Lib.hid (by unfold sweepStep; rw [HNOW.out]; rfl)
              go_wp2
              go_roundw
              case rel => exact ⟨k + 1, out, true, by omega, by go_num, rfl, by omega, fun _ => hon (by trivial), HO3.out, by rw [T1.out, T2.out]; exact HB3.out, HR3.out, HL3.out, HZ3.out, by rw [HSW2.out, T1.out, T2.out]; exact sweepL_step want ⟨at0, ef, es⟩ _ F S true true out out HMO.out HNOW.out HST.out⟩
              case measure => simp [intOf]; omega
            | false =>
              have HST : RowKit.Hid (sweepStep want ⟨at0, ef, es⟩ (F + ef) (S + es) false out = out ++ [(at0, 0)]) := Lib.hid (by unfold sweepStep; rw [HNOW.out]; rfl)
              go_wp2_with (at_builtin; refine appE elS rfl (.tmp 60) (.tmp 64) rfl (w1.heap.size + 1) _ out rfl (HO3.out.next ((br _).alloc (Nat.le_refl _) _)) _ [(at0, 0)] rfl (rd_lit elS [(at0, 0)] _ _ _ _ rfl (by simp [maxLen])) (by show out.length + 1 ≤ _; unfold maxLen; omega) (by show (out.length + 1) * 16 ≤ _; omega) (by have := HZ3.out; simp; omega) ?_; intro v1 w5 hown1 hb5 hfar5; have HO1 := Lib.hid hown1; have HB5 := Lib.hid hb5; clear hown1 hfar5 hb5)
              have hal5 := (br W3).alloc (Nat.le_refl _) (.cells #[.int .i64 at0, .int .i64 0] 51)
              have HBX5 : RowKit.Hid (Box w5 w1.heap.size 87 [.int .i64 0, .int .i64 (F + ef), .int .i64 (S + es)]) := Lib.hid ((HB3.out.next hal5).of_block (HB5.out.block _ (by omega)))
              have HR5 : RowKit.Hid (RdE elE w5 (.slice (some ⟨blk, 0, none⟩) xs.length cap) ys) := Lib.hid (rd_eq (HR3.out.below hal5) (HB5.out.block _ (by omega)) HB5.out.size)
              have HL5 : RowKit.Hid (Below base w w5) := Lib.hid ((HL3.out.alloc (by have := HZ3.out; omega) _).trans (HB5.out.mono (by omega)))
              have HZ5 : RowKit.Hid (w1.heap.size < w5.heap.size) := Lib.hid (by have := HZ3.out; have := HB5.out.size; have := hal5.size; omega)
              clear hal5
              go_roundw
              case rel => exact ⟨k + 1, _, true, by omega, by go_num, rfl, by rw [List.length_append]; show out.length + 1 ≤ _; omega, fun _ => by simp, HO1.out, by rw [T1.out, T2.out]; exact HBX5.out, HR5.out, HL5.out, HZ5.out, by rw [HSW2.out, T1.out, T2.out]; exact sweepL_step want ⟨at0, ef, es⟩ _ F S false true out _ HMO.out HNOW.out HST.out⟩
              case measure => simp [intOf]; omega
      · have il1 : ¬ (k : Int) + 1 < (xs.length : Int) := by omega
        have il2 : (xs.length : Int) ≤ (k : Int) + 1 := by omega
        have HM0 : RowKit.Hid (more ⟨at0, ef, es⟩ (ys.drop (k + 1)) = false) := Lib.hid (by rw [List.drop_eq_nil_of_le (by rw [HYL.out]; omega)]; rfl)
        have hwk : IntKind.i64.wrap ((k : Int) + 1) = (k : Int) + 1 := IntWalk.i64_in _ (by omega)
        have hdc : decide ((k : Int) + 1 < (xs.length : Int)) = false := decide_eq_false il1
        go_wp2_with fail
        go_quiet (fail)
        have HMO : RowKit.Hid (more ⟨at0, ef, es⟩ (ys.drop (k + 1)) = false) := Lib.hid (HM0.out)
        obtain ⟨now, hnow⟩ : ∃ b, want (F + ef) (S + es) = b := ⟨_, rfl⟩
        obtain ⟨W3, hW3⟩ : ∃ W3, W2.drewN nq = W3 := ⟨_, rfl⟩
        have hb3 := HB2.out nq; have ho3 := HO2.out nq; have hr3 := HR2.out nq; have hl3 := HL2.out nq; have hz3 := HZ2.out nq
        have hbe3 : Box (W2.drewN nq) wr.heap.size 87 [.int .i64 at0, .int .i64 ef, .int .i64 es] := HBE.out
        rw [hW3] at hb3 ho3 hr3 hl3 hz3 hbe3 ⊢
        have y0 := hbe3.cell 0; have y1 := hb3.cell 1; have y2 := hb3.cell 2
        simp only [List.getElem?_cons_zero, List.getElem?_cons_succ] at y0 y1 y2
        have HBE3 := Lib.hid hbe3; have HB3 := Lib.hid hb3; have HO3 := Lib.hid ho3; have HR3 := Lib.hid hr3; have HL3 := Lib.hid hl3; have HZ3 := Lib.hid hz3
        clear hW3 hb3 ho3 hr3 hl3 hz3 hbe3 ze0 zf1 zf2 HBE HB2 HO2 HR2 HL2 HZ2
        have HWN := HW.out (F + ef) (S + es) W3 (by omega) (by omega)
        rw [hnow] at HWN
        have HNOW := Lib.hid hnow
        have HWN := Lib.hid HWN
        clear hnow
        go_wp2_with fail
        refine HWN.out.mono ?_
        rintro en w9 ⟨rfl, rfl⟩
        cases now with
        | false =>
          cases on with
          | false =>
            have HST : RowKit.Hid (sweepStep want ⟨at0, ef, es⟩ (F + ef) (S + es) false out = out) := Lib.hid (by unfold sweepStep; rw [HNOW.out]; rfl)
            go_wp2
            go_roundw
            case rel => exact ⟨k + 1, out, false, by omega, by go_num, rfl, by omega, fun h => by simp at h, HO3.out, by rw [T1.out, T2.out]; exact HB3.out, HR3.out, HL3.out, HZ3.out, by rw [HSW2.out, T1.out, T2.out]; exact sweepL_step want ⟨at0, ef, es⟩ _ F S false false out out HMO.out HNOW.out HST.out⟩
            case measure => simp [intOf]; omega
          | true =>
            obtain ⟨m, hm⟩ : ∃ m, out.length = m + 1 := ⟨out.length - 1, by have := hon (by trivial); omega⟩
            have hpos : 0 < out.length := by omega
            obtain ⟨gg, cc, hu, hgb⟩ := own_some HO3.out hpos
            subst hu
            have HOS := Lib.hid (own_setTo HO3.out hpos at0)
            have HST : RowKit.Hid (sweepStep want ⟨at0, ef, es⟩ (F + ef) (S + es) true out = setTo out at0) := Lib.hid (by unfold sweepStep; rw [HNOW.out]; rfl)
            have hfz := HO3.out.frozenAt (m * 2 + 1)
            have hrdO := HO3.out.rd
            have hcel : ∃ z, W3.cell? ⟨gg, m * 2 + 1, none⟩ = some (.int .i64 z) := by
              obtain ⟨a9, c9, e9, k1, k2, k3⟩ := hrdO
              obtain ⟨b9, o9, e10, k4, k5⟩ := k3 hpos
              injection e9 with e11 _ _
              rw [e10] at e11
              injection e11 with e11
              injection e11 with e12 e13
              subst e12 e13
              have := (eS_at k5 m (by omega)).2
              rw [Nat.zero_add] at this
              exact ⟨_, this⟩
            obtain ⟨z, hz⟩ := hcel
            have HS5 : RowKit.Hid (ROwn elS (W3.setCell ⟨gg, m * 2 + 1, none⟩ (.int .i64 at0)) (w1.heap.size + 1) (.slice (some ⟨gg, 0, none⟩) (m + 1) cc) (setTo out at0) ∧ (setTo out at0).length = m + 1) := Lib.hid (by
              have := HOS.out
              rw [hm, Nat.add_sub_cancel] at this
              exact this)
            have HBX5 : RowKit.Hid (Box (W3.setCell ⟨gg, m * 2 + 1, none⟩ (.int .i64 at0)) w1.heap.size 87 [.int .i64 0, .int .i64 (F + ef), .int .i64 (S + es)]) := Lib.hid (HB3.out.other _ _ _ (by omega))
            have HR5 : RowKit.Hid (RdE elE (W3.setCell ⟨gg, m * 2 + 1, none⟩ (.int .i64 at0)) (.slice (some ⟨blk, 0, none⟩) xs.length cap) ys) := Lib.hid (rd_other HR3.out (by omega))
            have HL5 : RowKit.Hid (Below base w (W3.setCell ⟨gg, m * 2 + 1, none⟩ (.int .i64 at0))) := Lib.hid (HL3.out.setCell (p := ⟨gg, m * 2 + 1, none⟩) (by show base ≤ gg; omega) _)
            have HZ5 : RowKit.Hid (w1.heap.size < (W3.setCell ⟨gg, m * 2 + 1, none⟩ (.int .i64 at0)).heap.size) := Lib.hid (by rw [World.size_setCell]; exact HZ3.out)
            have im0 : (0 : Int) ≤ (m : Int) := by omega
            have im1 : (m : Int) < (m : Int) + 1 := by omega
            rw [hm]
            clear HOS hrdO HOWN HO3
            go_wp2
            go_roundw
            case rel => exact ⟨k + 1, setTo out at0, false, by omega, by go_num, rfl, by rw [HS5.out.2]; omega, fun h => by simp at h, HS5.out.1, by rw [T1.out, T2.out]; exact HBX5.out, HR5.out, HL5.out, HZ5.out, by rw [HSW2.out, T1.out, T2.out]; exact sweepL_step want ⟨at0, ef, es⟩ _ F S true false out _ HMO.out HNOW.out HST.out⟩
            case measure => simp [intOf]; omega
        | true =>
          cases on with
          | true =>
            have HST : RowKit.Hid (sweepStep want ⟨at0, ef, es⟩ (F + ef) (S + es) true out = out) := Lib.hid (by unfold sweepStep; rw [HNOW.out]; rfl)
            go_wp2
            go_roundw
            case rel => exact ⟨k + 1, out, true, by omega, by go_num, rfl, by omega, fun _ => hon (by trivial), HO3.out, by rw [T1.out, T2.out]; exact HB3.out, HR3.out, HL3.out, HZ3.out, by rw [HSW2.out, T1.out, T2.out]; exact sweepL_step want ⟨at0, ef, es⟩ _ F S true true out out HMO.out HNOW.out HST.out⟩
            case measure => simp [intOf]; omega
          | false =>
            have HST : RowKit.Hid (sweepStep want ⟨at0, ef, es⟩ (F + ef) (S + es) false out = out ++ [(at0, 0)]) := Lib.hid (by unfold sweepStep; rw [HNOW.out]; rfl)
            go_wp2_with (at_builtin; refine appE elS rfl (.tmp 60) (.tmp 64) rfl (w1.heap.size + 1) _ out rfl (HO3.out.next ((br _).alloc (Nat.le_refl _) _)) _ [(at0, 0)] rfl (rd_lit elS [(at0, 0)] _ _ _ _ rfl (by simp [maxLen])) (by show out.length + 1 ≤ _; unfold maxLen; omega) (by show (out.length + 1) * 16 ≤ _; omega) (by have := HZ3.out; simp; omega) ?_; intro v1 w5 hown1 hb5 hfar5; have HO1 := Lib.hid hown1; have HB5 := Lib.hid hb5; clear hown1 hfar5 hb5)
            have hal5 := (br W3).alloc (Nat.le_refl _) (.cells #[.int .i64 at0, .int .i64 0] 51)
            have HBX5 : RowKit.Hid (Box w5 w1.heap.size 87 [.int .i64 0, .int .i64 (F + ef), .int .i64 (S + es)]) := Lib.hid ((HB3.out.next hal5).of_block (HB5.out.block _ (by omega)))
            have HR5 : RowKit.Hid (RdE elE w5 (.slice (some ⟨blk, 0, none⟩) xs.length cap) ys) := Lib.hid (rd_eq (HR3.out.below hal5) (HB5.out.block _ (by omega)) HB5.out.size)
            have HL5 : RowKit.Hid (Below base w w5) := Lib.hid ((HL3.out.alloc (by have := HZ3.out; omega) _).trans (HB5.out.mono (by omega)))
            have HZ5 : RowKit.Hid (w1.heap.size < w5.heap.size) := Lib.hid (by have := HZ3.out; have := HB5.out.size; have := hal5.size; omega)
            clear hal5
            go_roundw
            case rel => exact ⟨k + 1, _, true, by omega, by go_num, rfl, by rw [List.length_append]; show out.length + 1 ≤ _; omega, fun _ => by simp, HO1.out, by rw [T1.out, T2.out]; exact HBX5.out, HR5.out, HL5.out, HZ5.out, by rw [HSW2.out, T1.out, T2.out]; exact sweepL_step want ⟨at0, ef, es⟩ _ F S false true out _ HMO.out HNOW.out HST.out⟩
            case measure => simp [intOf]; omega
    · have ek : k = xs.length := by omega
      subst ek
      rw [List.drop_eq_nil_of_le (by rw [← hyl]; exact Nat.le_refl _)] at hsw
      have HSW3 := Lib.hid hsw
      clear hsw hown hbox hrd hbw
      go_wp2
      go_ret
      exact ⟨_, ys, rfl, HP.out, HRI.out, by rw [HSW3.out]; exact HOWN.out.base (by have := HB1.out.size; omega), HBW.out⟩
end Sn
end Go.Proofs.Ytcgncmlldjblmaa
