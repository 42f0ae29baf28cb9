/- Sets of days: what is handed in stays, the room behind it too; no answer shares anything with it. -/
import Derived.Test.YtncpgfmamhjekaaSpansLaws
import Derived.Test.YtncpgfmamhjekaaOpenN
import Derived.IntWalk
import Derived.Laws.MakeOwn
import Derived.Laws.OwnMore
set_option linter.unusedSimpArgs false
set_option linter.unusedVariables false
namespace Go.Proofs.Ytncpgfmamhjekaa
open Go.RowKit
namespace Sn
theorem mk_spans (n : Nat) (hn : n * 16 ≤ 140737488351232) : ∃ C : Array Value, C.size = (n + 1) * 2 ∧ ∀ w : World, (Instr.makeSlice 22 (.int .i64 0) (.int .i64 ((n : Int) + 1))).run Try.prog w = .ok (.slice (some ⟨w.heap.size, 0, none⟩) 0 (n + 1)) (w.alloc (.cells C 39)) := by
  obtain ⟨i0, hi, hz0, hz1, hz2⟩ := info_parts elS.info
  refine ⟨madeCells elS.zero.cells ((n + 1) * 2), size_madeCells _ _, fun w => ?_⟩
  have := run_make (P := Try.prog) w 22 39 i0 _ Try.underlying22 hi hz0 .i64 .i64 0 ((n : Int) + 1) (by omega) (by omega) (by rw [hz2]; show (16 : Int) * ((n : Int) + 1) ≤ _; omega) (by omega)
  rw [this, hz1, show ((n : Int) + 1).toNat = n + 1 by omega]
  rfl
/-- a slice that came out of a call -/
structure Sl where
  a : Option Addr
  n : Nat
  c : Nat
abbrev Sl.v (s : Sl) : Value := .slice s.a s.n s.c
/-- its elements are there, beyond B, not in block H, and may be written -/
def Wb (B H : Nat) (w : World) (s : Sl) : Prop := ∀ i, i < s.n → ∃ b off, s.a = some ⟨b, off, none⟩ ∧ B ≤ b ∧ b ≠ H ∧ ∀ j, j < 2 → (∃ x, w.cell? ⟨b, off + (i * 2 + j), none⟩ = some x) ∧ w.frozen? ⟨b, off + (i * 2 + j), none⟩ = false
theorem Wb.next {B H : Nat} {w w' : World} {s : Sl} (h : Wb B H w s) (hb : Below w.heap.size w w') : Wb B H w' s := fun i hi => by
  obtain ⟨b, off, e, g1, g2, g3⟩ := h i hi
  refine ⟨b, off, e, g1, g2, fun j hj => ?_⟩
  obtain ⟨⟨x, hx⟩, hf⟩ := g3 j hj
  have hl := World.block_lt_of_cell? w _ hx
  exact ⟨⟨x, (hb.cell hl).trans hx⟩, (hb.frozen hl).trans hf⟩
theorem Wb.set {B H : Nat} {w : World} {s : Sl} (h : Wb B H w s) (p : Addr) (v : Value) : Wb B H (w.setCell p v) s := fun i hi => by
  obtain ⟨b, off, e, g1, g2, g3⟩ := h i hi
  refine ⟨b, off, e, g1, g2, fun j hj => ?_⟩
  obtain ⟨⟨x, hx⟩, hf⟩ := g3 j hj
  exact ⟨RowKit.cell?_setCell_some hx, by rw [World.frozen?_setCell]; exact hf⟩
theorem Wb.own {B H base : Nat} {w : World} {xs : List Sp} {a : Option Addr} {c : Nat} (h : ROwn elS w base (.slice a xs.length c) xs) (hB : B ≤ base) (hH : w.heap.size ≤ H) : Wb B H w ⟨a, xs.length, c⟩ := fun i hi => by
  have hi' : i < xs.length := hi
  obtain ⟨g, c', e, hg⟩ := own_some h (by omega)
  injection e with e1 e2 e3
  subst e1 e3
  have hlt := h.lt g rfl
  have hl : (xs.flatMap elS.enc).length = xs.length * 2 := elS.flat_len xs
  have hlt1 := hlt.1; have hlt2 := hlt.2
  refine ⟨g, 0, rfl, by omega, by omega, fun j hj => ⟨⟨(xs.flatMap elS.enc)[0 + (i * 2 + j)]'(by rw [hl]; omega), ?_⟩, h.frozenAt _⟩⟩
  rw [h.cellAt (0 + (i * 2 + j)) (show _ < xs.length * 2 by omega)]
  exact List.getElem?_eq_getElem (by rw [hl]; omega)
/-- what stands in the loops -/
structure Inv (H : Nat) (L : List Sl) (W w : World) : Prop where
  bel : Below W.heap.size W w
  cel : ∀ (k : Nat) (h : k < L.length), w.cell? ⟨H, k, none⟩ = some L[k].v
  wbs : ∀ s ∈ L, Wb W.heap.size H w s
theorem Inv.next {H : Nat} {L : List Sl} {W w w' : World} (h : Inv H L W w) (hb : Below w.heap.size w w') : Inv H L W w' :=
  ⟨bt h.bel hb, fun k hk => kp hb (h.cel k hk), fun s hs => (h.wbs s hs).next hb⟩
theorem Inv.set {H : Nat} {L : List Sl} {W w : World} (h : Inv H L W w) (b o : Nat) (hb : W.heap.size ≤ b) (hn : b ≠ H) (v : Value) : Inv H L W (w.setCell ⟨b, o, none⟩ v) :=
  ⟨h.bel.setCell hb _, fun k hk => (World.cell?_setCell_other w _ _ _ (by intro e; injection e with e1; exact hn e1)).trans (h.cel k hk), fun s hs => (h.wbs s hs).set _ _⟩
theorem own_cap {α : Type} {E : El α} {w : World} {base g n c : Nat} {xs : List α} (h : ROwn E w base (.slice (some ⟨g, 0, none⟩) n c) xs) : n ≤ c ∧ c ≤ maxLen ∧ base ≤ g := by
  obtain ⟨_, h | ⟨g', c', cur, h1, h2, h3, h4, h5, _⟩⟩ := h
  · exact absurd h.1 (by simp)
  · injection h1 with e1 e2 e3
    injection e1 with e1
    injection e1 with e1
    subst e1 e2 e3
    exact ⟨h4, h5, h2⟩
theorem own_last {w : World} {base g n c : Nat} {a : List Sp} {p q : Int} (h : ROwn elS w base (.slice (some ⟨g, 0, none⟩) n c) (a ++ [(p, q)])) :
    w.cell? ⟨g, a.length * 2, none⟩ = some (.int .i64 p) ∧ w.cell? ⟨g, a.length * 2 + 1, none⟩ = some (.int .i64 q) := by
  have hl := own_shape h
  obtain ⟨_, _, e⟩ := hl
  injection e with e1 e2 e3
  subst e2
  have hf : ((a ++ [(p, q)]).flatMap elS.enc) = a.flatMap elS.enc ++ [.int .i64 p, .int .i64 q] := by simp [eS]
  have hz : (a.flatMap elS.enc).length = a.length * 2 := elS.flat_len a
  have hn : (a ++ [(p, q)]).length * 2 = a.length * 2 + 2 := by simp; omega
  refine ⟨?_, ?_⟩
  · rw [h.cellAt (a.length * 2) (show _ < (a ++ [(p, q)]).length * 2 by omega), hf, List.getElem?_append_right (by omega), hz, Nat.sub_self]; rfl
  · rw [h.cellAt (a.length * 2 + 1) (show _ < (a ++ [(p, q)]).length * 2 by omega), hf, List.getElem?_append_right (by omega), hz, show a.length * 2 + 1 - a.length * 2 = 1 by omega]; rfl
set_option maxRecDepth 100000 in
set_option maxHeartbeats 8000000 in
theorem rest_walk (va : Value) (a : List Sp) (vb : Value) (b : List Sp) (w : World) (ha : RdE elS w va a) (hb : RdE elS w vb b) (za : a.length * 16 ≤ 140737488351232) (zb : b.length * 16 ≤ 140737488351232) : Calls Try.prog 9 #[va, vb] w (BoolQ true w) := by
  have HA := Lib.hid ha; have HB := Lib.hid hb
  have CS := Lib.hid span_any
  have CBG := Lib.hid begun_any
  have C0 := Lib.hid (fun v u w h g => union_any v u a b w h g)
  have C1 := Lib.hid (fun v u w h g => meet_any v u a b w h g)
  have C2 := Lib.hid (fun v u w h g => minus_any v u a b w h g)
  have C3 := Lib.hid (fun v w h => of_any v a w h)
  have SA := Lib.hid (fun v u w h g => same_any v u a w h g)
  have SB := Lib.hid (fun v u w h g => same_any v u b w h g)
  obtain ⟨QA, hQA, MA⟩ := mk_spans a.length za
  obtain ⟨QB, hQB, MB⟩ := mk_spans b.length zb
  have HQA := Lib.hid hQA; have HQB := Lib.hid hQB
  have la : a.length ≤ 8796093021952 := by omega
  have lb : b.length ≤ 8796093021952 := by omega
  have EA : RowKit.Hid ((a ++ [((7 : Int), (77 : Int))]).length = a.length + 1) := Lib.hid (by simp)
  have EB : RowKit.Hid ((b ++ [((8 : Int), (88 : Int))]).length = b.length + 1) := Lib.hid (by simp)
  obtain ⟨aa, ca, rfl, _, _, _⟩ := ha
  obtain ⟨ab, cb, rfl, _, _, _⟩ := hb
  clear hQA hQB za zb
  generalize bothE 0 a b = E0 at *; generalize bothE 1 a b = E1 at *; generalize bothE 2 a b = E2 at *
  generalize bothR 0 a b = R0 at *; generalize bothR 1 a b = R1 at *; generalize bothR 2 a b = R2 at *
  generalize ofE a = E3 at *; generalize ofR a = R3 at *
  go_enter Try.func9, Try.ntmps9
  go_wp2_with (at_builtin; refine appE elS rfl (.tmp 21) (.tmp 22) rfl w.heap.size _ [] rfl (World.ownsRow_made w QA (a.length + 1) (Nat.le_refl _) (by unfold maxLen; omega) HQA.out) _ a rfl (HA.out.below ((br w).alloc (Nat.le_refl _) _)) (by show 0 + a.length ≤ _; unfold maxLen; omega) (by show (0 + a.length) * 16 ≤ _; omega) (by simp) ?_; intro v1 w1 o1 b1 f1; rw [List.nil_append] at o1; have O1 := Lib.hid o1; have B1 := Lib.hid (((br w).alloc (Nat.le_refl _) _).trans b1); clear o1 b1 f1)
  go_wp2_with fail
  refine (CS.out 7 77 _).mono ?_
  rintro en w2 ⟨rfl, b2⟩
  have B2 := Lib.hid (bt B1.out b2); have O2 := Lib.hid (O1.out.next b2)
  clear b2 B1 O1
  go_wp2_with (at_builtin; refine appE elS rfl (.tmp 23) (.tmp 25) rfl w.heap.size _ a rfl (O2.out.next ((br w2).alloc (Nat.le_refl _) _)) _ [(7, 77)] rfl (rd_lit elS [(7, 77)] w2 _ _ w2.heap.size rfl (by simp [maxLen])) (by show a.length + 1 ≤ _; unfold maxLen; omega) (by show (a.length + 1) * 16 ≤ _; omega) (by have := B2.out.size; simp; omega) ?_; intro v3 w3 o3 b3 f3)
  obtain ⟨g1, c1, e1, _⟩ := own_some o3 (by rw [EA.out]; omega)
  rw [EA.out] at e1
  subst e1
  obtain ⟨cc1, _, _⟩ := own_cap o3
  obtain ⟨x10, x11⟩ := own_last o3
  have rd1 := rd_pre o3.rd a.length (by simp)
  rw [List.take_left] at rd1
  have RS := Lib.hid rd1
  have XS0 := Lib.hid x10
  have XS1 := Lib.hid x11
  have B3 := Lib.hid ((B2.out.alloc B2.out.size _).trans b3)
  clear o3 b3 f3 rd1 x10 x11 O2 B2
  have capS0 : (a.length : Int) ≤ (c1 : Int) := by omega
  have capS1 : (a.length : Int) + 1 ≤ (c1 : Int) := by omega
  have HB3 := Lib.hid (HB.out.below B3.out)
  go_wp2_with (at_builtin; refine appE elS rfl (.tmp 33) (.tmp 34) rfl w3.heap.size _ [] rfl (World.ownsRow_made w3 QB (b.length + 1) (Nat.le_refl _) (by unfold maxLen; omega) HQB.out) _ b rfl (HB3.out.below ((br w3).alloc (Nat.le_refl _) _)) (by show 0 + b.length ≤ _; unfold maxLen; omega) (by show (0 + b.length) * 16 ≤ _; omega) (by simp) ?_; intro v4 w4 o4 b4 f4; rw [List.nil_append] at o4; have O4 := Lib.hid o4; have B4 := Lib.hid (((br w3).alloc (Nat.le_refl _) _).trans b4); clear o4 b4 f4)
  go_wp2_with fail
  refine (CS.out 8 88 _).mono ?_
  rintro en w5 ⟨rfl, b5⟩
  have B5 := Lib.hid (bt B4.out b5); have O5 := Lib.hid (O4.out.next b5)
  clear b5 B4 O4
  go_wp2_with (at_builtin; refine appE elS rfl (.tmp 35) (.tmp 37) rfl w3.heap.size _ b rfl (O5.out.next ((br w5).alloc (Nat.le_refl _) _)) _ [(8, 88)] rfl (rd_lit elS [(8, 88)] w5 _ _ w5.heap.size rfl (by simp [maxLen])) (by show b.length + 1 ≤ _; unfold maxLen; omega) (by show (b.length + 1) * 16 ≤ _; omega) (by have := B5.out.size; simp; omega) ?_; intro v6 w6 o6 b6 f6)
  obtain ⟨g4, c4, e4, _⟩ := own_some o6 (by rw [EB.out]; omega)
  rw [EB.out] at e4
  subst e4
  obtain ⟨cc4, _, _⟩ := own_cap o6
  obtain ⟨x40, x41⟩ := own_last o6
  have rd4 := rd_pre o6.rd b.length (by simp)
  rw [List.take_left] at rd4
  have RT := Lib.hid rd4
  have XT0 := Lib.hid x40
  have XT1 := Lib.hid x41
  have B6 := Lib.hid ((B5.out.alloc B5.out.size _).trans b6)
  clear o6 b6 f6 rd4 x40 x41 O5 B5
  have capT0 : (b.length : Int) ≤ (c4 : Int) := by omega
  have capT1 : (b.length : Int) + 1 ≤ (c4 : Int) := by omega
  have RS6 := Lib.hid (RS.out.below B6.out)
  have XS6 := Lib.hid (kp B6.out XS0.out); have XS7 := Lib.hid (kp B6.out XS1.out)
  have HW := Lib.hid (bt B3.out B6.out)
  have RA6 := Lib.hid (HA.out.below HW.out); have RB6 := Lib.hid (HB.out.below HW.out)
  clear HB3 RS XS0 XS1 B3 B6 HQA HQB HA HB EA EB MA MB cc1 cc4
  go_wp2_with fail
  refine (C0.out _ _ _ RS6.out RT.out).mono ?_
  rintro en w7 ⟨u7, rfl, o7, b7⟩
  obtain ⟨a7, c7, f7⟩ := own_shape o7
  subst f7
  have O7 := Lib.hid o7
  have B7 := Lib.hid b7
  have K7 := Lib.hid (bt (br w6) b7)
  clear b7 o7
  go_wp2_with fail
  refine (C1.out _ _ _ (RS6.out.below K7.out) (RT.out.below K7.out)).mono ?_
  rintro en w8 ⟨u8, rfl, o8, b8⟩
  obtain ⟨a8, c8, f8⟩ := own_shape o8
  subst f8
  have O8 := Lib.hid o8
  have B8 := Lib.hid b8
  have K8 := Lib.hid (bt K7.out b8)
  clear b8 o8
  go_wp2_with fail
  refine (C2.out _ _ _ (RS6.out.below K8.out) (RT.out.below K8.out)).mono ?_
  rintro en w9 ⟨u9, rfl, o9, b9⟩
  obtain ⟨a9, c9, f9⟩ := own_shape o9
  subst f9
  have O9 := Lib.hid o9
  have B9 := Lib.hid b9
  have K9 := Lib.hid (bt K8.out b9)
  clear b9 o9
  go_wp2_with fail
  refine (C3.out _ _ (RS6.out.below K9.out)).mono ?_
  rintro en w10 ⟨u10, rfl, o10, b10⟩
  obtain ⟨a10, c10, f10⟩ := own_shape o10
  subst f10
  have O10 := Lib.hid o10
  have B10 := Lib.hid b10
  have K10 := Lib.hid (bt K9.out b10)
  clear b10 o10
  go_wp2_with fail
  refine (CBG.out _).mono ?_
  rintro en w11 ⟨rfl, b11⟩
  have B11 := Lib.hid b11
  have K11 := Lib.hid (bt K10.out b11)
  clear b11
  obtain ⟨L, hL⟩ : ∃ L : List Sl, [⟨a7, R0.length, c7⟩, ⟨a8, R1.length, c8⟩, ⟨a9, R2.length, c9⟩, ⟨a10, R3.length, c10⟩] = L := ⟨_, rfl⟩
  have HL4 : L.length = 4 := by rw [← hL]; rfl
  have HBND : RowKit.Hid (∀ s ∈ L, s.n ≤ 9223372036854775807) := Lib.hid (by
    subst hL; intro s hs; simp at hs
    rcases hs with rfl | rfl | rfl | rfl
    · exact O7.out.rd.len_le
    · exact O8.out.rd.len_le
    · exact O9.out.rd.len_le
    · exact O10.out.rd.len_le)
  have hI : Inv w11.heap.size L w6 (w11.alloc (.cells #[.slice a7 R0.length c7, .slice a8 R1.length c8, .slice a9 R2.length c9, .slice a10 R3.length c10] 22)) := by
    have bA := (br w11).alloc (Nat.le_refl _) (.cells #[.slice a7 R0.length c7, .slice a8 R1.length c8, .slice a9 R2.length c9, .slice a10 R3.length c10] 22)
    have s7 := B7.out.size; have s8 := B8.out.size; have s9 := B9.out.size; have s10 := B10.out.size; have s11 := B11.out.size
    refine ⟨bt K11.out bA, fun k hk => ?_, fun s hs => ?_⟩
    · subst hL
      rw [World.cell?_alloc_mark]
      match k with
      | 0 => rfl
      | 1 => rfl
      | 2 => rfl
      | 3 => rfl
      | k + 4 => exact absurd hk (by simp)
    · subst hL
      simp at hs
      rcases hs with rfl | rfl | rfl | rfl
      · exact (Wb.own O7.out (Nat.le_refl _) (by omega)).next (bt (bt (bt (bt B8.out B9.out) B10.out) B11.out) bA)
      · exact (Wb.own O8.out (by omega) (by omega)).next (bt (bt (bt B9.out B10.out) B11.out) bA)
      · exact (Wb.own O9.out (by omega) (by omega)).next (bt (bt B10.out B11.out) bA)
      · exact (Wb.own O10.out (by omega) (by omega)).next (bt B11.out bA)
  have HI := Lib.hid hI
  clear hI hL O7 O8 O9 O10 B7 B8 B9 B10 B11 K7 K8 K9 K10 C0 C1 C2 C3 CBG
  go_wp2
  generalize hH : w11.heap.size = H at *
  have HH := Lib.hid hH
  clear hH
  go_loopw [16] (fun i wr => ∃ k : Nat, k ≤ 4 ∧ i = .int .i64 k ∧ Inv H L w6 wr) (fun i _ => 4 - (intOf i).toNat)
  case atStart => exact ⟨0, by omega, rfl, HI.out⟩
  case round =>
    obtain ⟨k, hk, rfl, hi⟩ := hrel
    have HJ := Lib.hid hi
    by_cases hlt : k < 4
    · have i1 : (k : Int) < 4 := by omega
      have i0 : (0 : Int) ≤ (k : Int) := by omega
      clear hi
      obtain ⟨N, hN⟩ : ∃ N, (L[k]'(by omega)).n = N := ⟨_, rfl⟩
      have HN := Lib.hid hN
      have hN63 : N ≤ 9223372036854775807 := by rw [← hN]; exact HBND.out _ (List.getElem_mem _)
      clear hN
      go_wp2
      go_loopw [17] (fun q wy => ∃ j : Nat, j ≤ N ∧ q = .int .i64 j ∧ Inv H L w6 wy) (fun q _ => N - (intOf q).toNat)
      case atStart => exact ⟨0, by omega, rfl, HJ.out⟩
      case round =>
        obtain ⟨j, hj, rfl, hi⟩ := hrel
        have HK := Lib.hid hi
        have d0 := hi.cel k (by omega)
        have hwb := hi.wbs _ (List.getElem_mem (l := L) (n := k) (by omega))
        have hn := HN.out
        clear hi
        generalize L[k]'(by omega) = s at *
        obtain ⟨ad, n, c⟩ := s
        simp only at hn
        simp only [Sl.v] at d0
        by_cases hjN : j < N
        · have hjn : j < n := by omega
          clear hn
          obtain ⟨g, off, e, hg1, hg2, hg3⟩ := hwb j hjn
          simp only at e
          subst e
          obtain ⟨⟨x0, q0⟩, f0⟩ := hg3 0 (by omega)
          obtain ⟨⟨x1, q1⟩, f1⟩ := hg3 1 (by omega)
          rw [Nat.add_zero] at q0 f0
          rw [← Nat.add_assoc] at q1 f1
          have j1 : (j : Int) < (n : Int) := by omega
          have j0 : (0 : Int) ≤ (j : Int) := by omega
          have HNE := Lib.hid hg2
          have Q0 := Lib.hid q0; have Q1 := Lib.hid q1; have F0 := Lib.hid f0; have F1 := Lib.hid f1
          clear hg3 hg2 hwb q0 q1 f0 f1
          go_wp2_with fail
          have d1 : wr.drew.cell? ⟨H, k, none⟩ = some (.slice (some ⟨g, off, none⟩) n c) := d0
          have hgl : g < wr.drew.heap.size := World.block_lt_of_cell? wr _ Q0.out
          have hn1 : ∀ o, (⟨g, o, none⟩ : Addr) ≠ ⟨H, k, none⟩ := fun o e => by injection e with e1; exact HNE.out e1
          go_region_held3 (fun w' => w'.cell? ⟨H, k, none⟩ = some (.slice (some ⟨g, off, none⟩) n c))
            (first | exact kp b12 d1 | (rw [World.cell?_setCell_other _ _ _ _ (hn1 _), World.cell?_setCell_other _ _ _ _ (hn1 _)]; exact kp b12 d1) | go_keep | fail)
            (first
              | (go_at_call 24; (with_reducible refine (CS.out (-5) (-6) _).mono ?_); rintro en w12 ⟨rfl, b12⟩; have z0 : w12.cell? ⟨g, off + j * 2, none⟩ = some x0 := kp b12 Q0.out; have z1 : w12.cell? ⟨g, off + j * 2 + 1, none⟩ = some x1 := kp b12 Q1.out; have z2 : w12.frozen? ⟨g, off + j * 2, none⟩ = false := (b12.frozen (p := ⟨g, off + j * 2, none⟩) hgl).trans F0.out; have z3 : w12.frozen? ⟨g, off + j * 2 + 1, none⟩ = false := (b12.frozen (p := ⟨g, off + j * 2 + 1, none⟩) hgl).trans F1.out)
              | fail)
          go_wp2
          go_roundw
          case rel => exact ⟨j + 1, by omega, by go_num, ((HK.out.next (bt (bn (br wr) 1) b12)).set g _ hg1 HNE.out _).set g _ hg1 HNE.out _⟩
          case measure => simp [intOf]; omega
        · have j1 : (n : Int) ≤ (j : Int) := by omega
          clear hn
          go_wp2
          go_roundw
          case rel => exact ⟨k + 1, by omega, by go_num, HK.out⟩
          case measure => simp [intOf]; omega
    · have ek : k = 4 := by omega
      subst ek
      have HBD : RowKit.Hid (Below w6.heap.size w6 wr.drew) := Lib.hid hi.bel.drew
      have y0 : wr.drew.cell? ⟨g1, a.length * 2, none⟩ = some (.int .i64 7) := kp HBD.out XS6.out
      have y1 : wr.drew.cell? ⟨g1, a.length * 2 + 1, none⟩ = some (.int .i64 77) := kp HBD.out XS7.out
      have y2 : wr.drew.cell? ⟨g4, b.length * 2, none⟩ = some (.int .i64 8) := kp HBD.out XT0.out
      have y3 : wr.drew.cell? ⟨g4, b.length * 2 + 1, none⟩ = some (.int .i64 88) := kp HBD.out XT1.out
      have la0 : (0 : Int) ≤ (a.length : Int) := by omega
      have lb0 : (0 : Int) ≤ (b.length : Int) := by omega
      have wa : IntKind.i64.wrap ((a.length : Int) + 1) = (a.length : Int) + 1 := IntWalk.i64_in _ (by omega)
      have wb : IntKind.i64.wrap ((b.length : Int) + 1) = (b.length : Int) + 1 := IntWalk.i64_in _ (by omega)
      have la1 : (0 : Int) ≤ (a.length : Int) + 1 := by omega
      have lb1 : (0 : Int) ≤ (b.length : Int) + 1 := by omega
      have hx1 : (a.length : Int) < (a.length : Int) + 1 := by omega
      have hx2 : (b.length : Int) < (b.length : Int) + 1 := by omega
      have ta1 : ((a.length : Int) + 1).toNat = a.length + 1 := by omega
      have tb1 : ((b.length : Int) + 1).toNat = b.length + 1 := by omega
      clear hi
      go_wp2_with fail
      go_region_held3 (fun w' => w'.cell? ⟨g1, a.length * 2, none⟩ = some (.int .i64 7) ∧ w'.cell? ⟨g1, a.length * 2 + 1, none⟩ = some (.int .i64 77) ∧ w'.cell? ⟨g4, b.length * 2, none⟩ = some (.int .i64 8) ∧ w'.cell? ⟨g4, b.length * 2 + 1, none⟩ = some (.int .i64 88))
        (first | exact ⟨kp b15 (kp b14 (kp b13 (kp b12 y0))), kp b15 (kp b14 (kp b13 (kp b12 y1))), kp b15 (kp b14 (kp b13 (kp b12 y2))), kp b15 (kp b14 (kp b13 (kp b12 y3)))⟩ | exact ⟨kp b14 (kp b13 (kp b12 y0)), kp b14 (kp b13 (kp b12 y1)), kp b14 (kp b13 (kp b12 y2)), kp b14 (kp b13 (kp b12 y3))⟩ | exact ⟨kp b13 (kp b12 y0), kp b13 (kp b12 y1), kp b13 (kp b12 y2), kp b13 (kp b12 y3)⟩ | exact ⟨kp b12 y0, kp b12 y1, kp b12 y2, kp b12 y3⟩ | go_keep | fail)
        (first
          | (go_at_call 17; (with_reducible refine (SA.out _ _ _ (RS6.out.below HBD.out) (RA6.out.below HBD.out)).mono ?_); rintro en w12 ⟨rfl, b12⟩)
          | (go_at_call 17; (with_reducible refine (SB.out _ _ _ (RT.out.below (bt HBD.out b12)) (RB6.out.below (bt HBD.out b12))).mono ?_); rintro en w13 ⟨rfl, b13⟩)
          | (go_at_call 24; (with_reducible refine (CS.out 7 77 _).mono ?_); rintro en w14 ⟨rfl, b14⟩)
          | (go_at_call 24; (with_reducible refine (CS.out 8 88 _).mono ?_); rintro en w15 ⟨rfl, b15⟩)
          | fail)
      all_goals go_wp2
      all_goals go_ret
      all_goals exact ⟨by first | rfl | (simp; done), bt HW.out (bt (bt (bt (bt HBD.out b12) b13) b14) b15)⟩
theorem rest_end (va : Value) (a : List Sp) (vb : Value) (b : List Sp) (w : World) (ha : RdE elS w va a) (za : a.length * 16 ≤ 140737488351232) (hb : RdE elS w vb b) (zb : b.length * 16 ≤ 140737488351232) : Calls Try.prog 9 #[va, vb] w fun e w' => e = .returned (.bool true) ∧ Below w.heap.size w w' := rest_walk va a vb b w ha hb za zb
end Sn
end Go.Proofs.Ytncpgfmamhjekaa
