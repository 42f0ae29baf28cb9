/- Fares: mending: a range within a range. -/
import Derived.Test.YtcppeligeodomaaFareMx
set_option linter.unusedVariables false
namespace Go.Proofs.Ytcppeligeodomaa
open Go.RowKit Go.Shelf
attribute [local go_sem] Oper.semAt_some
namespace Fa
set_option maxRecDepth 100000 in
set_option maxHeartbeats 8000000 in
theorem mend_in (v : Value) (rs : List Rw) (w : World) (h : RdF w v rs) (hok : Ok (mat rs)) :
    CallsIn Fence.wide 9 Try.prog 21 #[v] w fun e w' => ∃ (go : Nat) (ps : List (Nat × List Int)), e = .returned (.tuple #[.slice (some ⟨go, 0, none⟩) ps.length ps.length, .int .i64 0]) ∧ Mx w' w.heap.size go ps 0 ∧ ps.map (·.2) = mendL (mat rs) (rngN rs.length) ∧ Below w.heap.size w w' := by
  have hml : (mat rs).length = rs.length := List.length_map _
  have hsix := hok.six
  rw [hml] at hsix
  have hpos := hok.pos
  rw [hml] at hpos
  have hrd := h
  have hch := (chkF_ok _).2 hok
  obtain ⟨a0, cap, rfl, -, -, -⟩ := h.rd
  have C1 := fun w' hb => check_any _ rs w' (h.next hb)
  rw [hch] at C1
  have HC1 := Lib.hid C1
  clear C1 hch
  have M1 := fun w => make_rows w rs.length (by omega)
  refine callsIn_of_wp_marks Try.func21 rfl trivial ?_ rfl
  simp only [Try.ntmps21, List.size_toArray, List.length_cons, List.length_nil, Nat.reduceAdd, Nat.reduceSub, Array.replicate_succ, Array.replicate_zero, List.push_toArray, List.append_toArray, List.nil_append, List.cons_append]
  gi_wp2_with fail
  refine ⟨trivial, (callsIn_wide.2 (HC1.out _ ((br w).alloc (Nat.le_refl _) _))).mono ?_⟩
  rintro e w1 ⟨rfl, hb1⟩
  have bF : Boxed w1 w.heap.size 23 (.slice a0 rs.length cap) := (hb1.block _ (by simp)).trans (Boxed.new w _ _)
  have hb01 : Below w.heap.size w w1 := ((br w).alloc (Nat.le_refl _) _).trans (hb1.mono (by simp))
  have cF := bF.cell
  have hz1 : w.heap.size < w1.heap.size := bF.lt
  gi_wp2
  have bN := (Boxed.new w1 3 (.int .i64 rs.length)).alloc (.cells (List.replicate rs.length (.slice none 0 0)).toArray 37) |>.alloc (.cells #[.slice (some ⟨w1.heap.size + 1, 0, none⟩) rs.length rs.length] 23)
  have bO := Boxed.new ((w1.alloc (.cells #[.int .i64 rs.length] 3)).alloc (.cells (List.replicate rs.length (.slice none 0 0)).toArray 37)) 23 (.slice (some ⟨w1.heap.size + 1, 0, none⟩) rs.length rs.length)
  have bG := (Box.new (w1.alloc (.cells #[.int .i64 rs.length] 3)) 37 (List.replicate rs.length (.slice none 0 0))).alloc (.cells #[.slice (some ⟨w1.heap.size + 1, 0, none⟩) rs.length rs.length] 23)
  have bF2 := ((bF.alloc (.cells #[.int .i64 rs.length] 3)).alloc (.cells (List.replicate rs.length (.slice none 0 0)).toArray 37)).alloc (.cells #[.slice (some ⟨w1.heap.size + 1, 0, none⟩) rs.length rs.length] 23)
  have hb02 : Below w.heap.size w (((w1.alloc (.cells #[.int .i64 rs.length] 3)).alloc (.cells (List.replicate rs.length (.slice none 0 0)).toArray 37)).alloc (.cells #[.slice (some ⟨w1.heap.size + 1, 0, none⟩) rs.length rs.length] 23)) := ((hb01.alloc (by omega) _).alloc (by simp; omega) _).alloc (by simp; omega) _
  simp only [World.size_alloc] at bO bG
  have hszW : (((w1.alloc (.cells #[.int .i64 rs.length] 3)).alloc (.cells (List.replicate rs.length (.slice none 0 0)).toArray 37)).alloc (.cells #[.slice (some ⟨w1.heap.size + 1, 0, none⟩) rs.length rs.length] 23)).heap.size = w1.heap.size + 3 := by simp
  obtain ⟨W2, hW2⟩ : ∃ W2, ((w1.alloc (.cells #[.int .i64 rs.length] 3)).alloc (.cells (List.replicate rs.length (.slice none 0 0)).toArray 37)).alloc (.cells #[.slice (some ⟨w1.heap.size + 1, 0, none⟩) rs.length rs.length] 23) = W2 := ⟨_, rfl⟩
  rw [← List.toArray_replicate]
  rw [hW2] at bN bO bG bF2 hb02 hszW ⊢
  obtain ⟨z1, hz1e⟩ : ∃ z1, w1.heap.size = z1 := ⟨_, rfl⟩
  rw [hz1e] at bN bO bG hszW hz1 ⊢
  clear hW2 hb1 hb01 cF bF hz1e
  have bM : Mx W2 w.heap.size (z1 + 1) [] rs.length := ⟨by simpa using bG, fun i hi => by simp at hi, by omega, fun i hi => by simp at hi, fun i hi => by simp at hi, fun i j hi => by simp at hi⟩
  have cO := bO.cell
  have cN := bN.cell
  gi_loopw [25] (fun i wr => ∃ (k : Nat) (ps : List (Nat × List Int)), k ≤ rs.length ∧ i = .int .i64 k ∧ ps.length = k ∧ ps.map (·.2) = (List.range k).map (fun a => List.replicate (rs.length - a) (0 : Int)) ∧ (∀ (i : Nat) (h : i < ps.length), W2.heap.size ≤ ps[i].1) ∧ Mx wr w.heap.size (z1 + 1) ps (rs.length - k) ∧ Kept [z1 + 1] W2 wr) (fun i _ => rs.length - (intOf i).toNat)
  case atStart => exact ⟨0, [], Nat.zero_le _, rfl, rfl, rfl, fun i hi => by simp at hi, bM, Kept.refl _ _⟩
  case round =>
    obtain ⟨k, ps, hk, rfl, hpl, hpz, hpg, hM, hKp⟩ := hrel
    have bO' := hKp.box bO (by simp)
    have bN' := hKp.box bN (by simp)
    have cO' := bO'.cell
    have cN' := bN'.cell
    have HPZ := Lib.hid hpz; have HPG := Lib.hid hpg; have HM := Lib.hid hM; have HKP := Lib.hid hKp; have HPL := Lib.hid hpl
    by_cases hlt : k < rs.length
    · have ik : (k : Int) < (rs.length : Int) := by omega
      have ik0 : (0 : Int) ≤ (k : Int) := by omega
      have hw : IntKind.i64.wrap ((rs.length : Int) - (k : Int)) = ((rs.length - k : Nat) : Int) := by
        rw [show (rs.length : Int) - (k : Int) = ((rs.length - k : Nat) : Int) from (Int.ofNat_sub hk).symm]; exact IntWalk.i64_in _ (by omega)
      have hL6 : rs.length - k ≤ 6 := by omega
      have hge : (1 : Nat) ≤ rs.length - k := by omega
      have cG := hM.outer.cell k
      have fG := hM.outer.froz k
      have hcg : (ps.map rowV ++ List.replicate (rs.length - k) (Value.slice none 0 0))[k]? = some (.slice none 0 0) := by
        rw [List.getElem?_append_right (by rw [List.length_map, hpl]; exact Nat.le_refl _), List.length_map, hpl, Nat.sub_self, List.getElem?_replicate, if_pos (by omega)]
      rw [hcg] at cG
      have cGa := fun o => ((hM.outer.alloc o).cell k).trans hcg
      have fGa := fun o => (hM.outer.alloc o).froz k
      have cOa := fun o => (bO'.alloc o).cell
      have cNa := fun o => (bN'.alloc o).cell
      obtain ⟨L, hL⟩ : ∃ L, rs.length - k = L := ⟨_, rfl⟩
      rw [hL] at hw hL6 hge
      have M2 := fun w => make_ints w L (by omega)
      have HL := Lib.hid hL
      clear hcg hM hKp hpz hpg hL hpl bO' bN' bO bN bG bF2 bM
      gi_wp2
      refine wpIn_wide.2 ?_
      go_region
      gi_wp2
      go_roundw
      case rel =>
        have hg2 := HKP.out.size
        refine ⟨k + 1, ps ++ [(wr.heap.size, List.replicate L (0 : Int))], hlt, by go_num, ?_, ?_, ?_, ?_, ((HKP.out.alloc _).set (z1 + 1) k _ (.inl (by simp))).drewN 1⟩
        rotate_left 3
        · have hM2 := HM.out
          rw [show rs.length - k = rs.length - (k + 1) + 1 by omega] at hM2
          have h3 := hM2.push (by omega) L
          rw [HPL.out] at h3
          rw [List.toArray_replicate] at h3
          exact (h3.kept ((Kept.refl [] _).drewN 1) (fun b hb => by simp at hb) :)
        · simp [HPL.out]
        · rw [List.map_append, HPZ.out, List.range_succ, List.map_append, List.map_cons, List.map_nil, List.map_cons, List.map_nil, HL.out]
        · intro i hi
          by_cases hc : i < ps.length
          · rw [List.getElem_append_left hc]; exact HPG.out i hc
          · have : i = ps.length := by simp at hi; omega
            subst this
            simp; exact hg2
      case measure => simp [intOf]; omega
    · have ek : k = rs.length := by omega
      subst ek
      rw [Nat.sub_self] at hM
      have hM0 := hM
      have bF' := hKp.box bF2 (by simp; omega)
      have bR := Boxed.new wr 3 (.int .i64 rs.length)
      have hpg0 := hpg
      clear hpg hpl HM HPL HPG HPZ HKP hM bM
      gi_wp2_with fail
      refine ⟨trivial, (callsIn_wide.2 (ranges_in rs.length _)).mono ?_⟩
      rintro e w' ⟨rfl, rfl⟩
      gi_wp2
      have hsw := hKp.size
      have hOK : Shape rs.length (mendL (mat rs) []) := by have := shape_zeros rs.length; unfold mendL; rw [hml]; exact this
      have hzero : ps.map (·.2) = mendL (mat rs) [] := by rw [hpz]; unfold mendL zeros; rw [hml]; rfl
      obtain ⟨bl, hbl⟩ : ∃ bl, ps.map (·.1) = bl := ⟨_, rfl⟩
      have hblt : ∀ b ∈ bl, b < wr.heap.size := fun b hb => hM0.lt b (List.mem_cons_of_mem _ (by rw [hbl]; exact hb))
      have hbge : ∀ b ∈ bl, z1 + 3 ≤ b := fun b hb => by
        rw [← hbl] at hb
        obtain ⟨q, hq, rfl⟩ := List.mem_map.1 hb
        obtain ⟨i, hi, rfl⟩ := List.getElem_of_mem hq
        have := hpg0 i hi
        omega
      have bF0 := bF'.alloc (.cells #[.int .i64 rs.length] 3)
      have bO0 := bO'.alloc (.cells #[.int .i64 rs.length] 3)
      have bN0 := bN'.alloc (.cells #[.int .i64 rs.length] 3)
      have bM0 : Mx (wr.alloc (.cells #[.int .i64 rs.length] 3)) w.heap.size (z1 + 1) ps 0 := hM0.kept (((Kept.refl [] wr)).alloc _) (fun b hb => by simp at hb)
      have hb00 : Below w.heap.size w (wr.alloc (.cells #[.int .i64 rs.length] 3)) := (hb02.trans (hKp.below (by omega) (fun b hb => by simp at hb; omega))).alloc (by omega) _
      have hszr : (wr.alloc (.cells #[.int .i64 rs.length] 3)).heap.size = wr.heap.size + 1 := World.size_alloc _ _
      obtain ⟨z2, hz2⟩ : ∃ z2, wr.heap.size = z2 := ⟨_, rfl⟩
      obtain ⟨W0, hW0⟩ : ∃ W0, wr.alloc (.cells #[.int .i64 rs.length] 3) = W0 := ⟨_, rfl⟩
      rw [hz2] at hblt hszr hsw bR ⊢
      rw [hW0] at bF0 bO0 bN0 bM0 hb00 hszr bR ⊢
      clear hW0 hpz hpg0 hM0 hb02 bF' bO' bN' bF2 bO bN cO cN cO' cN' hKp hz2
      have PC : RowKit.Hid (∀ (x y : Int) (X Y : Nat) (v : Int), x = (X : Int) → y = (Y : Int) → X ≤ Y → Y < rs.length → price (mat rs) X Y = v → ∀ n W', Below w.heap.size w W' → CallsIn Fence.wide n Try.prog 38 #[.slice a0 rs.length cap, .int .i64 x, .int .i64 y] W' fun e w'' => e = .returned (.int .i64 v) ∧ W' = w'') := Lib.hid (fun x y X Y v h1 h2 h3 h4 h5 n W' hb => by
        subst h5
        exact callsIn_wide.2 ((price_int _ rs x y X Y h1 h2 w W' hrd hb hok h3 h4).mono fun e w2 h => ⟨h.1, h.2.symm⟩))
      have PB : RowKit.Hid (∀ (X Y : Nat), X ≤ Y → Y < rs.length → 0 ≤ price (mat rs) X Y ∧ price (mat rs) X Y ≤ 1000000) := Lib.hid (fun X Y h1 h2 => price_ok hok h1 (by rw [hml]; exact h2))
      have HOK := Lib.hid hok; have HML := Lib.hid hml
      have hfP : Fence.wide.fn 38 := trivial
      have hfR : Fence.wide.fn 40 := trivial
      have HB00 := Lib.hid hb00; have BF0 := Lib.hid bF0; have BO0 := Lib.hid bO0; have BN0 := Lib.hid bN0; have BM0 := Lib.hid bM0; have BR0 := Lib.hid bR
      have HBLT := Lib.hid hblt; have HBGE := Lib.hid hbge; have HBL := Lib.hid hbl; have HZ := Lib.hid hzero
      clear hok hml hrd h HC1 M1 hOK hb00 bF0 bO0 bN0 bM0 bR hblt hbge hbl hzero
      refine wpIn_rangeFunc_ownH rfl (by omega) (gf := 58) (lb := #[.pointer (some ⟨z2, 0, none⟩)]) rfl trivial (enters_of Try.func58 (by kernel_rfl) rfl)
        (ranges_stops 8 z2 rs.length hsix _ (by omega) BR0.out.cell) (fun h k => k.trans h) (fun W l o o' hl _ _ _ => World.putObj_heap_other (by omega)) (Below.refl _ _) (fun _ => rfl)
        (fun pre W => (∃ ps', ps'.map (·.1) = bl ∧ ps'.map (·.2) = mendL (mat rs) (pre.map (·.1)) ∧ Mx W w.heap.size (z1 + 1) ps' 0) ∧ Kept ((z1 + 1) :: bl) W0 W)
        (fun _ _ _ => False)
        (OwnFrom.and (fun s X Y row hs hg hr => by obtain ⟨ps', h1, h2, h3⟩ := hs; exact ⟨ps', h1, h2, Mx.own (β := Unit) w.heap.size (z1 + 1) 0 (fun _ => ps') () X Y row h3 hg (fun r e => (hr r e).2)⟩) (Kept.own _ _ _ (Nat.le_refl _)))
        (fun _ _ _ _ _ hs _ _ => hs)
        ⟨⟨ps, HBL.out, HZ.out, BM0.out⟩, Kept.refl _ _⟩
        (fun x a' W => ∃ Ba Bb, W0.heap.size ≤ Ba ∧ W0.heap.size ≤ Bb ∧ Ba ≠ Bb ∧ Boxed W Ba 3 (.int .i64 x.1.1) ∧ Boxed W Bb 3 (.int .i64 x.1.2) ∧ a' = { tmps := #[.slice a0 rs.length cap, .pointer (some ⟨w.heap.size, 0, none⟩), .slice none 0 0, .int .i64 0, .int .i64 0, .pointer (some ⟨z1, 0, none⟩), .pointer (some ⟨z1 + 1 + 1, 0, none⟩), u7, .pointer (some ⟨Ba, 0, none⟩), .pointer (some ⟨Bb, 0, none⟩), undef, undef, undef, undef, .slice a0 rs.length cap, .int .i64 0, .int .i64 0, .bool false, undef, .slice a0 rs.length cap, .int .i64 rs.length, .int .i64 rs.length, .slice (some ⟨z1 + 1, 0, none⟩) rs.length rs.length, .slice (some ⟨z1 + 1, 0, none⟩) rs.length rs.length, .int .i64 rs.length, .int .i64 rs.length, .bool false, u27, u28, u29, u30, u31, u32, u33, u34, u35, .int .i64 rs.length, .func (.func 58) #[] #[.pointer (some ⟨z2, 0, none⟩)], .int .i64 x.1.1, .int .i64 x.1.2, undef, undef, undef, undef, undef, undef, undef, undef, undef, undef, undef, undef, undef, undef, undef, undef, undef, undef, undef, undef, undef, undef, undef, undef, undef, undef, undef, undef, undef, undef, undef, undef, undef, undef, undef, undef, undef, undef, undef, undef, undef, undef, undef, undef, undef, undef, undef, undef, undef, undef], defers := [] })
        (fun x a' _ X Y row hs hg hr => by
          obtain ⟨Ba, Bb, e1, e2, e3, e4, e5, e6⟩ := hs
          exact ⟨Ba, Bb, e1, e2, e3, boxed_own Ba 3 (fun (_ : Unit) => Value.int .i64 x.1.1) () X Y row e4 hg (fun r e => (hr r e).2), boxed_own Bb 3 (fun (_ : Unit) => Value.int .i64 x.1.2) () X Y row e5 hg (fun r e => (hr r e).2), e6⟩)
        ?assign ?body ?done ?stop
      case assign =>
        rintro l pre x W K ⟨⟨ps', h1, h2, h3⟩, hk⟩ hK
        have hszk := hk.size
        gi_wp2
        refine hK _ _ (((KeepsOthers.alloc _ _).trans (KeepsOthers.alloc _ _)).from _) ?_ ⟨⟨ps', h1, h2, h3.kept (((Kept.refl [] _).alloc _).alloc _) (fun b hb => by simp at hb)⟩, (hk.alloc _).alloc _⟩ ⟨W.heap.size, W.heap.size + 1, hszk, by omega, by omega, (Boxed.new W _ _).alloc _, by have := Boxed.new (W.alloc (.cells #[.int .i64 x.1.1] 3)) 3 (.int .i64 x.1.2); rw [World.size_alloc] at this; exact this, ?_⟩
        · show ((W.alloc _).alloc _).heap[z2]? = W.heap[z2]?
          rw [Below.heap_alloc _ _ _ (by rw [World.size_alloc]; omega), Below.heap_alloc _ _ _ (by omega)]
        · rfl
      case body =>
        rintro l pre ⟨⟨a, b⟩, hab, hb⟩ a' W hl ⟨r, hr⟩ ⟨⟨ps', h1, h2, h3⟩, hk⟩ ⟨Ba, Bb, hBa, hBb, hBne, bA, bB, rfl⟩ hlt
        dsimp only at hab hb bA bB
        have hszk := hk.size
        have hnot : ∀ k, (k < z1 ∨ k = z1 ∨ k = z1 + 1 + 1 ∨ z2 ≤ k) → k ∉ ((z1 + 1) :: bl) := fun k hc hm => by
          rcases List.mem_cons.1 hm with e | hm
          · omega
          · have e1 := HBGE.out _ hm
            have e2 := HBLT.out _ hm
            omega
        have bF := hk.box BF0.out (hnot _ (by omega))
        have bO := hk.box BO0.out (hnot _ (by omega))
        have bN := hk.box BN0.out (hnot _ (by omega))
        have bR := hk.box BR0.out (hnot _ (by omega))
        have cF := bF.cell; have cN := bN.cell; have cA := bA.cell; have cB := bB.cell
        have cNa := fun o => (bN.alloc o).cell
        have hBW : Below w.heap.size w W := HB00.out.trans (hk.below (by omega) (fun k hm => by
          rcases List.mem_cons.1 hm with e | hm
          · omega
          · have e1 := HBGE.out _ hm
            omega))
        obtain ⟨p, hp⟩ : ∃ p, price (mat rs) a b = p := ⟨_, rfl⟩
        have HP := Lib.hid hp; have HBW := Lib.hid hBW
        have HBF := Lib.hid bF; have HBO := Lib.hid bO; have HBN := Lib.hid bN; have HBR := Lib.hid bR; have HBA := Lib.hid bA; have HBB := Lib.hid bB
        have HR := Lib.hid hr; have HK := Lib.hid hk; have H3 := Lib.hid h3; have H2 := Lib.hid h2; have H1 := Lib.hid h1; have HNT := Lib.hid hnot
        clear hp hBW bF bO bN bR bA bB hr hk h3 h2 h1 hnot
        gi_wp2_with (first | (gi_at_call 38; with_reducible refine (CallsIn.inRound l (PC.out (a : Int) (b : Int) a b p rfl rfl hab hb HP.out _ _ HBW.out)).mono ?_; rintro e w' ⟨rfl, rfl⟩) | (gi_at_call 40; refine (CallsIn.inRound l (callsIn_wide.2 (ranges_in rs.length _))).mono ?_; rintro e w' ⟨rfl, rfl⟩))
        have bC := (Boxed.new W 3 (.int .i64 p)).alloc (.cells #[.int .i64 rs.length] 3)
        have bX := Boxed.new (W.alloc (.cells #[.int .i64 p] 3)) 3 (.int .i64 rs.length)
        have hk1 : Kept [] W ((W.alloc (.cells #[.int .i64 p] 3)).alloc (.cells #[.int .i64 rs.length] 3)) := ((Kept.refl [] W).alloc _).alloc _
        have hsz1 : ((W.alloc (.cells #[.int .i64 p] 3)).alloc (.cells #[.int .i64 rs.length] 3)).heap.size = W.heap.size + 2 := by simp
        rw [World.size_alloc] at bX
        obtain ⟨W1, hW1⟩ : ∃ W1, (W.alloc (.cells #[.int .i64 p] 3)).alloc (.cells #[.int .i64 rs.length] 3) = W1 := ⟨_, rfl⟩
        rw [hW1] at bC bX hk1 hsz1 ⊢
        clear hW1 cNa
        have bF1 := hk1.box HBF.out (by simp); have bO1 := hk1.box HBO.out (by simp); have bA1 := hk1.box HBA.out (by simp); have bB1 := hk1.box HBB.out (by simp)
        have hrlt : l < W.heap.size := (Array.getElem?_eq_some_iff.1 HR.out).1
        have hr' : W1.heap[l]? = some (.loop r) := (hk1.block l hrlt (by simp)).trans HR.out
        have hAlt := HBA.out.lt; have hBlt := HBB.out.lt; have hFlt := HBF.out.lt; have hOlt := HBO.out.lt
        have HBC := Lib.hid bC; have HBX0 := Lib.hid bX; have HK1 := Lib.hid hk1; have HBF1 := Lib.hid bF1; have HBO1 := Lib.hid bO1; have HBA1 := Lib.hid bA1; have HBB1 := Lib.hid bB1; have HR' := Lib.hid hr'
        clear bC bX hk1 bF1 bO1 bA1 bB1 hr' cF cN cA cB
        refine wpIn_rangeFunc_ownN (l₀ := l) (r₀ := r) rfl HR'.out (by omega) (gf := 58) (lb := #[.pointer (some ⟨W.heap.size + 1, 0, none⟩)]) rfl trivial (enters_of Try.func58 (by kernel_rfl) rfl)
          ((ranges_stops 6 (W.heap.size + 1) rs.length hsix _ (by omega) HBX0.out.cell).inRound l) (fun h k => k.trans h) (fun W l o o' hl _ _ _ => World.putObj_heap_other (by omega)) (Below.refl _ _) (fun _ => rfl)
          (fun pre' W' => Boxed W' W.heap.size 3 (.int .i64 (cheap (mat rs) a b (pre'.map (·.1)) p)) ∧ Kept [W.heap.size] W1 W')
          (fun _ _ _ => False)
          (OwnFrom.and (Own.from (boxed_own W.heap.size 3 (fun pre' : List (Rg rs.length) => Value.int .i64 (cheap (mat rs) a b (pre'.map (·.1)) p))) _) (Kept.own _ _ _ (Nat.le_refl _)))
          (fun _ _ _ _ _ hs _ _ => hs)
          ⟨HBC.out, Kept.refl _ _⟩
          (fun y a'' _ => a'' = { tmps := #[.slice a0 rs.length cap, .pointer (some ⟨w.heap.size, 0, none⟩), .slice none 0 0, .int .i64 0, .int .i64 0, .pointer (some ⟨z1, 0, none⟩), .pointer (some ⟨z1 + 1 + 1, 0, none⟩), u7, .pointer (some ⟨Ba, 0, none⟩), .pointer (some ⟨Bb, 0, none⟩), .pointer (some ⟨W.heap.size, 0, none⟩), .int .i64 y.1.1, .int .i64 y.1.2, undef, .slice a0 rs.length cap, .int .i64 0, .int .i64 0, .bool false, undef, .slice a0 rs.length cap, .int .i64 rs.length, .int .i64 rs.length, .slice (some ⟨z1 + 1, 0, none⟩) rs.length rs.length, .slice (some ⟨z1 + 1, 0, none⟩) rs.length rs.length, .int .i64 rs.length, .int .i64 rs.length, .bool false, u27, u28, u29, u30, u31, u32, u33, u34, u35, .int .i64 rs.length, .func (.func 58) #[] #[.pointer (some ⟨z2, 0, none⟩)], .int .i64 a, .int .i64 b, .slice a0 rs.length cap, .int .i64 a, .int .i64 b, .int .i64 p, .int .i64 rs.length, .func (.func 58) #[] #[.pointer (some ⟨W.heap.size + 1, 0, none⟩)], .int .i64 y.1.1, .int .i64 y.1.2, undef, undef, undef, undef, undef, undef, undef, undef, undef, undef, undef, undef, undef, undef, undef, undef, undef, undef, undef, undef, undef, undef, undef, undef, undef, undef, undef, undef, undef, undef, undef, undef, undef, undef, undef, undef, undef, undef, undef, undef, undef, undef], defers := [] })
          (fun _ _ _ _ _ _ hs _ _ => hs)
          ?assign2 ?body2 ?done2 ?stop2
        case assign2 =>
          rintro l2 pre' y W' K hi hK
          gi_wp2
          exact hK _ _ (KeepsFrom.refl _ _) rfl hi rfl
        case body2 =>
          rintro l2 pre' ⟨⟨x, y⟩, hxy, hy⟩ a'' W' _ _ ⟨bC', hk'⟩ rfl _
          dsimp only at hxy hy
          have cA := (hk'.box HBA1.out (by simp; omega)).cell
          have cB := (hk'.box HBB1.out (by simp; omega)).cell
          have cF := (hk'.box HBF1.out (by simp; omega)).cell
          have cC := bC'.cell; have fC := bC'.frozen
          have hBX : ∀ n, Below w.heap.size w (W'.drewN n) := fun n => bn ((HBW.out.trans (HK1.out.below (by omega) (fun k hm => by simp at hm))).trans (hk'.below (by omega) (fun k hm => by simp at hm; omega))) n
          have HBX := Lib.hid hBX; have HC' := Lib.hid bC'; have HK' := Lib.hid hk'
          obtain ⟨c, hc⟩ : ∃ c, cheap (mat rs) a b (pre'.map (·.1)) p = c := ⟨_, rfl⟩
          rw [hc] at cC
          have HC := Lib.hid hc
          clear bC' hk' hBX hc
          by_cases hcd : x ≤ a ∧ b ≤ y
          · obtain ⟨hxa, hby⟩ := hcd
            have ix : (x : Int) ≤ (a : Int) := by omega
            have iy : (b : Int) ≤ (y : Int) := by omega
            obtain ⟨q, hq⟩ : ∃ q, price (mat rs) x y = q := ⟨_, rfl⟩
            have HQ := Lib.hid hq
            clear hq
            rcases Int.lt_or_le q c with hm | hm
            · have hmin : min c q = q := by omega
              gi_wp2
              refine wpIn_region_quiet_last (F := Fence.wide) (l0 := l2) 6 rfl (by kernel_rfl) rfl (by kernel_rfl) (by kernel_rfl) ?_
              simp only [List.take_succ_cons, List.take_zero, List.drop_succ_cons, List.drop_zero]
              iterate 4 (gi_big_quiet_step (fail))
              gi_big_quiet_step ((gi_at_call 38; with_reducible exact qzIn (PC.out (x : Int) (y : Int) x y q rfl rfl hxy hy HQ.out _ _ (HBX.out _))))
              gi_big_quiet_step (fail)
              refine wpQuietIn_nil ?_
              intro _ hw'
              obtain ⟨nq, hw''⟩ := hw'
              subst hw''
              gi_wp2
              exact ⟨(keeps_drewN _ W' nq).trans ((KeepsOthers.setCell _ _ _).from _), Below.heap_setCell (W'.drewN nq) _ _ _ (show W.heap.size + 1 ≠ W.heap.size by omega), by rw [List.map_append, List.map_cons, List.map_nil, cheap_snoc, if_pos ⟨hxa, hby⟩, HC.out, HQ.out, hmin]; exact ((show Boxed (W'.drewN nq) _ _ _ from HC'.out).set _), (HK'.out.drewN nq).set _ _ _ (.inl (by simp))⟩
            · have hmin : min c q = c := by omega
              gi_wp2
              refine wpIn_region_quiet_last (F := Fence.wide) (l0 := l2) 6 rfl (by kernel_rfl) rfl (by kernel_rfl) (by kernel_rfl) ?_
              simp only [List.take_succ_cons, List.take_zero, List.drop_succ_cons, List.drop_zero]
              iterate 4 (gi_big_quiet_step (fail))
              gi_big_quiet_step ((gi_at_call 38; with_reducible exact qzIn (PC.out (x : Int) (y : Int) x y q rfl rfl hxy hy HQ.out _ _ (HBX.out _))))
              gi_big_quiet_step (fail)
              refine wpQuietIn_nil ?_
              intro _ hw'
              obtain ⟨nq, hw''⟩ := hw'
              subst hw''
              gi_wp2
              exact ⟨(keeps_drewN _ W' nq).trans ((KeepsOthers.setCell _ _ _).from _), Below.heap_setCell (W'.drewN nq) _ _ _ (show W.heap.size + 1 ≠ W.heap.size by omega), by rw [List.map_append, List.map_cons, List.map_nil, cheap_snoc, if_pos ⟨hxa, hby⟩, HC.out, HQ.out, hmin]; exact ((show Boxed (W'.drewN nq) _ _ _ from HC'.out).set _), (HK'.out.drewN nq).set _ _ _ (.inl (by simp))⟩
          · have hfin : ∀ (W3 : World), W3 = W' → Boxed W3 W.heap.size 3 (.int .i64 (cheap (mat rs) a b ((pre' ++ [(⟨(x, y), hxy, hy⟩ : Rg rs.length)]).map (·.1)) p)) := fun W3 e => by
              subst e
              rw [List.map_append, List.map_cons, List.map_nil, cheap_snoc, if_neg hcd]; exact HC'.out
            have HFN := Lib.hid hfin
            clear hfin
            by_cases hxa : x ≤ a
            · have ix : (x : Int) ≤ (a : Int) := by omega
              have iy : ¬ (b : Int) ≤ (y : Int) := by omega
              gi_wp2
              exact ⟨KeepsFrom.refl _ _, rfl, HFN.out _ rfl, HK'.out⟩
            · have ix : ¬ (x : Int) ≤ (a : Int) := by omega
              gi_wp2
              exact ⟨KeepsFrom.refl _ _, rfl, HFN.out _ rfl, HK'.out⟩
        case done2 =>
          rintro ys' W' hys ⟨bC', hk'⟩
          rw [rng_vals hys] at bC'
          have cA := (hk'.box HBA1.out (by simp; omega)).cell
          have cB := (hk'.box HBB1.out (by simp; omega)).cell
          obtain ⟨c0, hc0⟩ : ∃ c, cheap (mat rs) a b (rngN rs.length) p = c := ⟨_, rfl⟩
          rw [hc0] at bC'
          have HC0 := Lib.hid hc0
          have HC' := Lib.hid bC'; have HK' := Lib.hid hk'
          clear hc0 hk' bC'
          obtain ⟨O, hO⟩ : ∃ O, mendL (mat rs) (pre.map (·.1)) = O := ⟨_, rfl⟩
          have hSL := mendL_shape HOK.out (pre.map (·.1)) (fun q hq => by
            obtain ⟨z, _, rfl⟩ := List.mem_map.1 hq
            rw [HML.out]; exact z.2)
          rw [HML.out, hO] at hSL
          have HO := Lib.hid hO
          have h2 := H2.out
          rw [hO] at h2
          have hpl : ps'.length = rs.length := by rw [← hSL.1.len, ← h2, List.length_map]
          have hrow : ∀ (i : Nat) (hi : i < ps'.length), ps'[i].2.length = rs.length - i := fun i hi => by
            have := hSL.1.row i (by omega)
            rw [← h2, List.getD_eq_getElem?_getD, List.getElem?_map, List.getElem?_eq_getElem hi] at this
            exact this
          have hMk : ∀ X, Kept [W.heap.size] W1 X → Mx X w.heap.size (z1 + 1) ps' 0 := fun X hX => (H3.out.kept HK1.out (fun b hb => by simp at hb)).kept hX (fun b hb hm => by
            simp only [List.mem_singleton] at hb
            have := H3.out.lt b hm
            omega)
          have hOok := ok_of hSL.1 hSL.2 hpos hsix
          have PCO : RowKit.Hid (∀ (x y : Int) (X Y : Nat) (v : Int), x = (X : Int) → y = (Y : Int) → X ≤ Y → Y < rs.length → price O X Y = v → ∀ n W', Kept [W.heap.size] W1 W' → CallsIn Fence.wide n Try.prog 38 #[.slice (some ⟨z1 + 1, 0, none⟩) rs.length rs.length, .int .i64 x, .int .i64 y] W' fun e w'' => e = .returned (.int .i64 v) ∧ W' = w'') := Lib.hid (fun x y X Y v g1 g2 g3 g4 g5 n W' hX => by
            subst g5
            have hrd := (hMk W' hX).rdf (by omega) (fun i hi => by rw [hrow i hi]; omega)
            rw [hpl] at hrd
            have hm2 := mat_rwOf ps'
            rw [h2] at hm2
            have := price_int _ (ps'.map rwOf) x y X Y g1 g2 W' W' hrd (br W') (by rw [hm2]; exact hOok) g3 (by rw [List.length_map, hpl]; exact g4)
            rw [hm2] at this
            exact callsIn_wide.2 (this.mono fun e w2 h => ⟨h.1, h.2.symm⟩))
          have PBO := Lib.hid hSL.2
          have HMK := Lib.hid hMk; have HPL := Lib.hid hpl; have HRW := Lib.hid hrow; have HSL := Lib.hid hSL; have H2' := Lib.hid h2
          clear hOok hMk hrow hSL h2 hO
          gi_wp2
          gi_loopw [13] (fun i wx => ∃ m : Nat, a ≤ m ∧ m ≤ b ∧ i = .int .i64 m ∧ Boxed wx W.heap.size 3 (.int .i64 (parts O a b (m - a) c0)) ∧ Kept [W.heap.size] W1 wx) (fun i _ => b - (intOf i).toNat)
          case atStart => exact ⟨a, Nat.le_refl _, hab, rfl, by rw [Nat.sub_self]; exact HC'.out, HK'.out⟩
          case round =>
            obtain ⟨m, ham, hmb, rfl, hbx, hkx⟩ := hrel
            have cA := (hkx.box HBA1.out (by simp; omega)).cell
            have cB := (hkx.box HBB1.out (by simp; omega)).cell
            have cO := (hkx.box HBO1.out (by simp; omega)).cell
            have cC := hbx.cell; have fC := hbx.frozen
            have HBX := Lib.hid hbx
            have HKX : RowKit.Hid (∀ n, Kept [W.heap.size] W1 (wr.drewN n)) := Lib.hid (fun n => hkx.drewN n)
            obtain ⟨c, hc⟩ : ∃ c, parts O a b (m - a) c0 = c := ⟨_, rfl⟩
            rw [hc] at cC
            clear hbx
            by_cases hlt : m < b
            · have im : (m : Int) < (b : Int) := by omega
              obtain ⟨p1, hp1⟩ : ∃ q, price O a m = q := ⟨_, rfl⟩
              obtain ⟨p2, hp2⟩ : ∃ q, price O (m + 1) b = q := ⟨_, rfl⟩
              have g1 := PBO.out a m ham (by omega)
              have g2 := PBO.out (m + 1) b hlt hb
              rw [hp1] at g1
              rw [hp2] at g2
              have g3 := g1.1; have g4 := g1.2; have g5 := g2.1; have g6 := g2.2
              have HP1 := Lib.hid hp1; have HP2 := Lib.hid hp2
              have HPT : RowKit.Hid (∀ v : Int, min c (p1 + p2) = v → parts O a b (m + 1 - a) c0 = v) := Lib.hid (fun v hv => by
                rw [show m + 1 - a = m - a + 1 by omega]
                show min (parts O a b (m - a) c0) (price O a (a + (m - a)) + price O (a + (m - a) + 1) b) = v
                rw [show a + (m - a) = m by omega, hc, hp1, hp2]; exact hv)
              clear hp1 hp2 g1 g2 hkx hc
              rcases Int.lt_or_le (p1 + p2) c with hm | hm
              · have hmin : min c (p1 + p2) = p1 + p2 := by omega
                gi_wp2
                refine wpIn_region_quiet_last (F := Fence.wide) (l0 := l) 12 rfl (by kernel_rfl) rfl (by kernel_rfl) (by kernel_rfl) ?_
                simp only [List.take_succ_cons, List.take_zero, List.drop_succ_cons, List.drop_zero]
                iterate 4 (gi_big_quiet_step (fail))
                gi_big_quiet_step ((gi_at_call 38; with_reducible exact qzIn (PCO.out (a : Int) (m : Int) a m p1 rfl rfl ham (by omega) HP1.out _ _ (HKX.out _))))
                iterate 4 (gi_big_quiet_step (fail))
                gi_big_quiet_step ((gi_at_call 38; with_reducible exact qzIn (PCO.out ((m : Int) + 1) (b : Int) (m + 1) b p2 (by omega) rfl (by omega) hb HP2.out _ _ (HKX.out _))))
                iterate 2 (gi_big_quiet_step (fail))
                refine wpQuietIn_nil ?_
                intro _ hw'
                obtain ⟨nq, hw''⟩ := hw'
                subst hw''
                gi_wp2
                go_roundw
                case rel => exact ⟨m + 1, by omega, by omega, by go_num, by rw [HPT.out _ hmin]; exact ((show Boxed (wr.drewN nq) _ _ _ from HBX.out).set _), (HKX.out nq).set _ _ _ (.inl (by simp))⟩
                case measure => simp [intOf]; omega
              · have hmin : min c (p1 + p2) = c := by omega
                gi_wp2
                refine wpIn_region_quiet_last (F := Fence.wide) (l0 := l) 12 rfl (by kernel_rfl) rfl (by kernel_rfl) (by kernel_rfl) ?_
                simp only [List.take_succ_cons, List.take_zero, List.drop_succ_cons, List.drop_zero]
                iterate 4 (gi_big_quiet_step (fail))
                gi_big_quiet_step ((gi_at_call 38; with_reducible exact qzIn (PCO.out (a : Int) (m : Int) a m p1 rfl rfl ham (by omega) HP1.out _ _ (HKX.out _))))
                iterate 4 (gi_big_quiet_step (fail))
                gi_big_quiet_step ((gi_at_call 38; with_reducible exact qzIn (PCO.out ((m : Int) + 1) (b : Int) (m + 1) b p2 (by omega) rfl (by omega) hb HP2.out _ _ (HKX.out _))))
                iterate 2 (gi_big_quiet_step (fail))
                refine wpQuietIn_nil ?_
                intro _ hw'
                obtain ⟨nq, hw''⟩ := hw'
                subst hw''
                gi_wp2
                go_roundw
                case rel => exact ⟨m + 1, by omega, by omega, by go_num, by rw [HPT.out _ hmin]; exact ((show Boxed (wr.drewN nq) _ _ _ from HBX.out).set _), (HKX.out nq).set _ _ _ (.inl (by simp))⟩
                case measure => simp [intOf]; omega
            · have im : ¬ (m : Int) < (b : Int) := by omega
              have hmb2 : m = b := by omega
              subst hmb2
              have hal : a < ps'.length := by have := HPL.out; omega
              have hMX := HMK.out wr hkx
              have hL := HRW.out a hal
              have cRow := hMX.outer.cell a
              rw [List.replicate_zero, List.append_nil, List.getElem?_map, List.getElem?_eq_getElem hal] at cRow
              simp only [Option.map_some, rowV] at cRow
              have hki : m - a < ps'[a].2.length := by omega
              have cOld := (hMX.inner a hal).cell (m - a)
              have fOld := (hMX.inner a hal).froz (m - a)
              rw [List.getElem?_map, List.getElem?_eq_getElem hki] at cOld
              simp only [Option.map_some] at cOld
              have hbest : c = best (mat rs) O a m := by rw [← hc, ← HC0.out, ← HP.out]; unfold best; rw [HML.out]
              have HFIN : RowKit.Hid (∀ n, Mx ((wr.drewN n).setCell ⟨ps'[a].1, m - a, none⟩ (.int .i64 c)) w.heap.size (z1 + 1) (ps'.set a (ps'[a].1, ps'[a].2.set (m - a) c)) 0) := Lib.hid (fun n => (hMX.kept ((Kept.refl [] wr).drewN n) (fun b hb => by simp at hb)).set a (m - a) hal c)
              have HSND : RowKit.Hid ((ps'.set a (ps'[a].1, ps'[a].2.set (m - a) c)).map (·.2) = mendL (mat rs) ((pre ++ [(⟨(a, m), hab, hb⟩ : Rg rs.length)]).map (·.1))) := Lib.hid (by
                rw [snd_set a (m - a) hal c, H2'.out, List.map_append, List.map_cons, List.map_nil, mendL_snoc, HO.out, hbest]; rfl)
              have hblk : ps'[a].1 ∈ (z1 + 1) :: bl := by
                rw [← H1.out]; exact List.mem_cons_of_mem _ (List.mem_map.2 ⟨_, List.getElem_mem hal, rfl⟩)
              have HBK := Lib.hid hblk
              have hg : ps'[a].1 < z2 := HBLT.out _ (by rw [← H1.out]; exact List.mem_map.2 ⟨_, List.getElem_mem hal, rfl⟩)
              have hgne : ps'[a].1 ≠ W.heap.size := by omega
              have HFST : RowKit.Hid ((ps'.set a (ps'[a].1, ps'[a].2.set (m - a) c)).map (·.1) = bl) := Lib.hid (by
                rw [List.map_set, ← H1.out]
                apply List.ext_getElem
                · simp
                · intro j g1 g2
                  rw [List.getElem_set]
                  split
                  · rename_i e; subst e; simp
                  · rfl)
              have hcl : ∀ b ∈ [ps'[a].1], ∃ c t f, W.heap[b]? = some (.cells c t f) := fun b hb => by
                simp only [List.mem_singleton] at hb
                subst hb
                exact ⟨_, _, _, H3.out.inner a hal⟩
              have HCL := Lib.hid hcl
              have hw : IntKind.i64.wrap ((m : Int) - (a : Int)) = ((m - a : Nat) : Int) := by
                rw [show (m : Int) - (a : Int) = ((m - a : Nat) : Int) from (Int.ofNat_sub hab).symm]; exact IntWalk.i64_in _ (by omega)
              have hki0 : (0 : Int) ≤ ((m - a : Nat) : Int) := by omega
              have hki1 : ((m - a : Nat) : Int) < (ps'[a].2.length : Int) := by omega
              have ia1 : (a : Int) < (rs.length : Int) := by omega
              have ia0 : (0 : Int) ≤ (a : Int) := by omega
              have hL6 : ps'[a].2.length ≤ 6 := by omega
              clear hMX hbest hcl hblk hc hkx hL
              generalize ps'[a].1 = g at *
              gi_wp2
              refine wpIn_region_quiet_last (F := Fence.wide) (l0 := l) 9 rfl (by kernel_rfl) rfl (by kernel_rfl) (by kernel_rfl) ?_
              simp only [List.take_succ_cons, List.take_zero, List.drop_succ_cons, List.drop_zero]
              iterate 9 (gi_big_quiet_step (fail))
              refine wpQuietIn_nil ?_
              intro _ hw'
              obtain ⟨nq, hw''⟩ := hw'
              subst hw''
              gi_wp2
              have hkw : Kept [g] W ((wr.drewN nq).setCell ⟨g, m - a, none⟩ (.int .i64 c)) := (((HK1.out.mono (cs := [g]) (fun b hb => by simp at hb)).trans (HKX.out nq) (fun b hb => by simp at hb; omega)).set g (m - a) _ (.inl (by simp)))
              exact ⟨hkw.keeps HCL.out _, hkw.block z2 (by omega) (by simp; omega), ⟨⟨_, HFST.out, HSND.out, HFIN.out nq⟩, HK.out.trans hkw (fun b hb => by simp only [List.mem_singleton] at hb; subst hb; exact .inl HBK.out)⟩⟩
        case stop2 =>
          rintro c pre' W' _ h
          exact h.elim
      case done =>
        rintro D ys W hD hys ⟨⟨ps', h1, h2, h3⟩, hk⟩ hK
        have hpl2 : ps'.length = rs.length := by
          have hSL := mendL_shape HOK.out (ys.map (·.1)) (fun q hq => by
            obtain ⟨z, _, rfl⟩ := List.mem_map.1 hq
            rw [HML.out]; exact z.2)
          rw [← HML.out, ← hSL.1.len, ← h2, List.length_map]
        rw [rng_vals hys] at h2
        have bO := hk.box BO0.out (fun hm => by
          rcases List.mem_cons.1 hm with e | hm
          · omega
          · have e1 := HBGE.out _ hm
            omega)
        have cO := bO.cell
        have hBW : Below w.heap.size w W := HB00.out.trans (hk.below (by omega) (fun k hm => by
          rcases List.mem_cons.1 hm with e | hm
          · omega
          · have e1 := HBGE.out _ hm
            omega))
        gi_wp2
        refine ⟨by simp, .inl ⟨_, _, rfl, run_takeDeferred hK, ?_⟩⟩
        refine ⟨.tuple #[.slice (some ⟨z1 + 1, 0, none⟩) rs.length rs.length, .int .i64 0], by simp [results, Try.results21, go_sem], z1 + 1, ps', by rw [hpl2], Mx.own (β := Unit) w.heap.size (z1 + 1) 0 (fun _ => ps') () _ _ _ h3 (grownBy_putObj' W D (.deferred none)) (fun r e => by cases e; exact ⟨_, hK, rfl⟩), h2, hBW.trans (belowK_b (w := w) (Nat.le_refl _) W D _ _ (by omega) hK rfl rfl)⟩
      case stop =>
        rintro D c pre W _ _ h _
        exact h.elim
end Fa
end Go.Proofs.Ytcppeligeodomaa
