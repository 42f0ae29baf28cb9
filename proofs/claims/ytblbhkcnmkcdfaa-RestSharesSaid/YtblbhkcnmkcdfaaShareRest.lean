/- What is shared out: what is handed in stays, the room behind it too; no answer shares anything with it. -/
import Derived.Test.YtblbhkcnmkcdfaaShareL
import Derived.Test.YtblbhkcnmkcdfaaOpenI
import Derived.SizedLaws
import Derived.ProofKit
import Derived.OpenShut
import Derived.Deep.Slices
import Derived.Deep.Fields
import Derived.Lib.SmallJoins
import Derived.ChangeSame
import Derived.IntWalk
import Derived.Laws.MakeOwn
import Derived.Laws.OwnMore
set_option linter.unusedSimpArgs false
set_option linter.unusedVariables false
namespace Go.Proofs.Ytblbhkcnmkcdfaa
open Go.ChangeShapes Go.WideShapes Go.ChangeAt Go.RowKit Go.Joins Go.Deep
theorem openIntsZ {H : Type} {enc : TypeId × Value → H} {W : World} {b0 : Nat} {v : Value} {d : DataW H} {p : List MemPlace} (hv0 : Value.okWide Try.prog W .any b0 22 v) (h : DataW.Trod enc Try.prog W 0 (fun _ => true) true 22 v d p) : ∃ xs : List Int, RdE elZ W v xs ∧ (xs = [] ∨ ∃ elems spare, d = .slice elems spare ∧ elems.length = xs.length) := by
  obtain ⟨a0, len0, cap0, rfl⟩ := okWide_slice Try.underlying22 hv0
  obtain ⟨fuel, hf⟩ := h
  rcases open_ints (k := .i64) Try.underlying22 Try.underlying3 (by kernel_rfl) hf with ⟨h1, h2⟩ | ⟨a, len, cap, zs, h1, h2, h3, h4, h5, h6, h7, h8⟩
  · refine ⟨[], ?_, .inl rfl⟩
    simp [Value.cells] at h1
    obtain ⟨rfl, rfl, rfl⟩ := h1
    exact Rd.nil W
  · simp [Value.cells] at h1
    obtain ⟨rfl, rfl, rfl⟩ := h1
    rw [if_pos rfl] at h5
    have hl : (zs.take len0).length = len0 := by simp; omega
    refine ⟨zs.take len0, ⟨some a, cap0, by rw [hl], by omega, h4, fun hn => ?_⟩, .inr ⟨_, _, congrArg Prod.fst h6, by simp [lits]⟩⟩
    have c0 := h7 0 (by omega)
    rw [Addr.add_zero'] at c0
    have ha := addr_of c0
    refine ⟨a.block, a.off, by rw [← ha], World.block_lt_of_cell? W a c0, fun i hi j u hu => ?_⟩
    have ci := h7 i (by omega)
    match j with
    | 0 =>
      simp [eI] at hu
      subst hu
      have e : a.add i = ⟨a.block, a.off + (i * 1 + 0), none⟩ := by
        unfold Addr.add
        by_cases h0 : i = 0
        · rw [if_pos h0]; subst h0; simpa using ha
        · rw [if_neg h0]; simp
      rw [← e, ci]
      simp [List.getD_eq_getElem?_getD, List.getElem?_eq_getElem (show i < zs.length by omega)]
    | j + 1 => simp [eI] at hu
theorem sizedInts {H : Type} {ts : List TypeId} {ds : List (DataW H)} (hs : (DataW.weightsEach Try.prog ts ds).all (· ≤ reachBytes) = true) {j : Nat} (ht : ts[j]? = some 22) {d : DataW H} (hd : ds[j]? = some d) {xs : List Int}
    (z : xs = [] ∨ ∃ elems spare, d = .slice elems spare ∧ elems.length = xs.length) : xs.length * 8 ≤ 140737488351232 := by
  have hr : reachBytes = 140737488351232 := rfl
  rcases z with rfl | ⟨el, sp, rfl, hz⟩
  · simp
  · have hq := sized_slice hs ht hd Try.underlying22
    have hb : Try.prog.bytesOf 3 = 8 := by kernel_rfl
    rw [hb, hr] at hq
    omega
namespace Sh
open Stb
theorem mk_ints (n : Nat) (hn : n * 8 ≤ 140737488351232) : ∃ C : Array Value, C.size = (n + 1) * 1 ∧ ∀ w : World, (Instr.makeSlice 22 (.int .i64 0) (.int .i64 ((n : Int) + 1))).run Try.prog w = .ok (.slice (some ⟨w.heap.size, 0, none⟩) 0 (n + 1)) (w.alloc (.cells C 3)) := by
  obtain ⟨i0, hi, hz0, hz1, hz2⟩ := info_parts elZ.info
  refine ⟨madeCells elZ.zero.cells ((n + 1) * 1), size_madeCells _ _, fun w => ?_⟩
  have := run_make (P := Try.prog) w 22 3 i0 _ Try.underlying22 hi hz0 .i64 .i64 0 ((n : Int) + 1) (by omega) (by omega) (by rw [hz2]; show (8 : Int) * ((n : Int) + 1) ≤ _; omega) (by omega)
  rw [this, hz1, show ((n : Int) + 1).toNat = n + 1 by omega]
  rfl
/-- its elements are there, beyond B, and may be written -/
def Wb (B : Nat) (w : World) (a : Option Addr) (n : Nat) : Prop := ∀ i, i < n → ∃ b off, a = some ⟨b, off, none⟩ ∧ B ≤ b ∧ (∃ x, w.cell? ⟨b, off + i, none⟩ = some x) ∧ w.frozen? ⟨b, off + i, none⟩ = false
theorem Wb.next {B n : Nat} {w w' : World} {a : Option Addr} (h : Wb B w a n) (hb : Below w.heap.size w w') : Wb B w' a n := fun i hi => by
  obtain ⟨b, off, e, g1, ⟨x, hx⟩, hf⟩ := h i hi
  have hl := World.block_lt_of_cell? w _ hx
  exact ⟨b, off, e, g1, ⟨x, (hb.cell hl).trans hx⟩, (hb.frozen hl).trans hf⟩
theorem Wb.set {B n : Nat} {w : World} {a : Option Addr} (h : Wb B w a n) (p : Addr) (v : Value) : Wb B (w.setCell p v) a n := fun i hi => by
  obtain ⟨b, off, e, g1, ⟨x, hx⟩, hf⟩ := h i hi
  exact ⟨b, off, e, g1, RowKit.cell?_setCell_some hx, by rw [World.frozen?_setCell]; exact hf⟩
theorem Wb.own {B base : Nat} {w : World} {xs : List Int} {a : Option Addr} {c : Nat} (h : ROwn elZ w base (.slice a xs.length c) xs) (hB : B ≤ base) : Wb B w a xs.length := fun i hi => by
  obtain ⟨g, c', e, hg, _, _⟩ := own_someZ h (by omega)
  injection e with e1 e2 e3
  subst e1 e3
  have hlt := h.lt g rfl
  have hl : (xs.flatMap elZ.enc).length = xs.length * 1 := elZ.flat_len xs
  have hlt1 := hlt.1
  refine ⟨g, 0, rfl, by omega, ⟨(xs.flatMap elZ.enc)[0 + i]'(by rw [hl]; omega), ?_⟩, h.frozenAt _⟩
  rw [h.cellAt (0 + i) (show _ < xs.length * 1 by omega)]
  exact List.getElem?_eq_getElem (by rw [hl]; omega)
/-- what stands in the loops -/
structure Inv (a : Option Addr) (n : Nat) (b : Option Addr) (m : Nat) (W w : World) : Prop where
  bel : Below W.heap.size W w
  wa : Wb W.heap.size w a n
  wb : Wb W.heap.size w b m
theorem Inv.set {a b : Option Addr} {n m : Nat} {W w : World} (h : Inv a n b m W w) (g o : Nat) (hb : W.heap.size ≤ g) (v : Value) : Inv a n b m W (w.setCell ⟨g, o, none⟩ v) :=
  ⟨h.bel.setCell hb _, h.wa.set _ _, h.wb.set _ _⟩
theorem own_cap {α : Type} {E : El α} {w : World} {base g n c : Nat} {xs : List α} (h : ROwn E w base (.slice (some ⟨g, 0, none⟩) n c) xs) : n ≤ c ∧ c ≤ maxLen ∧ base ≤ g := by
  obtain ⟨_, h | ⟨g', c', cur, h1, h2, h3, h4, h5, _⟩⟩ := h
  · exact absurd h.1 (by simp)
  · injection h1 with e1 e2 e3
    injection e1 with e1
    injection e1 with e1
    subst e1 e2 e3
    exact ⟨h4, h5, h2⟩
theorem own_last {w : World} {base g n c : Nat} {a : List Int} {p : Int} (h : ROwn elZ w base (.slice (some ⟨g, 0, none⟩) n c) (a ++ [p])) : w.cell? ⟨g, a.length, none⟩ = some (.int .i64 p) := by
  have hl := own_shapeZ h
  obtain ⟨_, _, e⟩ := hl
  injection e with e1 e2 e3
  subst e2
  have hf : ((a ++ [p]).flatMap elZ.enc) = a.flatMap elZ.enc ++ [.int .i64 p] := by simp [eI]
  have hz : (a.flatMap elZ.enc).length = a.length * 1 := elZ.flat_len a
  rw [h.cellAt a.length (show _ < (a ++ [p]).length * 1 by simp), hf, List.getElem?_append_right (by omega), hz, show a.length - a.length * 1 = 0 by omega]
  rfl
set_option maxRecDepth 100000 in
set_option maxHeartbeats 8000000 in
theorem rest_walk (t : Int) (va : Value) (a : List Int) (w : World) (ha : RdE elZ w va a) (za : a.length * 8 ≤ 140737488351232) : Calls Try.prog 9 #[.int .i64 t, va] w (BoolZ true w) := by
  have HA := Lib.hid ha
  have CBG := Lib.hid begun_any
  have C2 := Lib.hid (fun v w h => ham_any v t a w h); have C3 := Lib.hid (fun v w h => jef_any v t a w h)
  have SA := Lib.hid (fun v u w h g => same_yes v u a w h g)
  obtain ⟨QA, hQA, MA⟩ := mk_ints a.length za
  have HQA := Lib.hid hQA
  have la : a.length ≤ 17592186043904 := by omega
  have EA : RowKit.Hid ((a ++ [(77 : Int)]).length = a.length + 1) := Lib.hid (by simp)
  obtain ⟨aa, ca, rfl, _, _, _⟩ := ha
  clear hQA za
  generalize hamR t a = X2 at *; generalize jefR t a = X3 at *; generalize allE t a = E2 at *
  go_enter Try.func9, Try.ntmps9
  go_wp2_with (at_builtin; first | (refine appE elZ rfl (.tmp 15) (.tmp 16) rfl w.heap.size _ [] rfl (World.ownsRow_made w QA (a.length + 1) (Nat.le_refl _) (by unfold maxLen; omega) HQA.out) _ a rfl (HA.out.below ((br w).alloc (Nat.le_refl _) _)) (by show 0 + a.length ≤ _; unfold maxLen; omega) (by show (0 + a.length) * 8 ≤ _; omega) (by simp) ?_; intro v1 w1 o1 b1 f1; rw [List.nil_append] at o1; have O1 := Lib.hid o1; have B1 := Lib.hid (((br w).alloc (Nat.le_refl _) _).trans b1); clear o1 b1 f1) | (refine appE elZ rfl (.tmp 17) (.tmp 18) rfl w.heap.size _ a rfl (O1.out.next ((br w1).alloc (Nat.le_refl _) _)) _ [77] rfl (rd_lit elZ [77] w1 _ _ w1.heap.size rfl (by simp [maxLen])) (by show a.length + 1 ≤ _; unfold maxLen; omega) (by show (a.length + 1) * 8 ≤ _; omega) (by have := B1.out.size; simp; omega) ?_; intro v3 w3 o3 b3 f3))
  obtain ⟨g1, c1, e1, _, _, _⟩ := own_someZ o3 (by rw [EA.out]; omega)
  rw [EA.out] at e1
  subst e1
  obtain ⟨cc1, _, _⟩ := own_cap o3
  have x10 := own_last o3
  have rd1 := rd_pre o3.rd a.length (by simp)
  rw [List.take_left] at rd1
  have RS := Lib.hid rd1
  have XS0 := Lib.hid x10
  have B3 := Lib.hid ((B1.out.alloc B1.out.size _).trans b3)
  clear o3 b3 f3 rd1 x10 O1 B1
  have capS0 : (a.length : Int) ≤ (c1 : Int) := by omega
  have capS1 : (a.length : Int) + 1 ≤ (c1 : Int) := by omega
  have RA3 := Lib.hid (HA.out.below B3.out)
  clear HQA HA EA MA cc1
  go_wp2_with fail
  refine (C2.out _ _ RS.out).mono ?_
  rintro en w7 ⟨u7, rfl, o7, b7⟩
  obtain ⟨a7, c7, f7⟩ := own_shapeZ o7
  subst f7
  have O7 := Lib.hid o7
  have B7 := Lib.hid b7
  clear b7 o7
  go_wp2_with fail
  refine (C3.out _ _ (RS.out.below B7.out)).mono ?_
  rintro en w8 ⟨u8, rfl, o8, b8⟩
  obtain ⟨a8, c8, f8⟩ := own_shapeZ o8
  subst f8
  have O8 := Lib.hid o8
  have B8 := Lib.hid b8
  clear b8 o8
  go_wp2_with fail
  refine (CBG.out _).mono ?_
  rintro en w9 ⟨rfl, b9⟩
  have B9 := Lib.hid b9
  clear b9
  have HI : RowKit.Hid (Inv a7 X2.length a8 X3.length w3 w9) := Lib.hid ⟨bt (bt B7.out B8.out) B9.out, (Wb.own O7.out (Nat.le_refl _)).next (bt B8.out B9.out), (Wb.own O8.out B7.out.size).next B9.out⟩
  have n7 := O7.out.rd.len_le; have n8 := O8.out.rd.len_le
  clear O7 O8 B7 B8 B9 C2 C3 CBG
  generalize X2.length = N2 at *; generalize X3.length = N3 at *
  go_wp2
  go_loopw [10] (fun i wr => ∃ k : Nat, k ≤ N2 ∧ i = .int .i64 k ∧ Inv a7 N2 a8 N3 w3 wr) (fun i _ => N2 - (intOf i).toNat)
  case atStart => exact ⟨0, Nat.zero_le _, rfl, HI.out⟩
  case round =>
    obtain ⟨k, hk, rfl, hi⟩ := hrel
    have HJ := Lib.hid hi
    have hwb := hi.wa
    clear hi
    by_cases hlt : k < N2
    · have i1 : (k : Int) < (N2 : Int) := by omega
      have i0 : (0 : Int) ≤ (k : Int) := by omega
      obtain ⟨g, off, e, hg1, ⟨x0, q0⟩, f0⟩ := hwb k hlt
      subst e
      clear hwb
      go_wp2
      go_roundw
      case rel => exact ⟨k + 1, by omega, by go_num, HJ.out.set g _ hg1 _⟩
      case measure => simp [intOf]; omega
    · have i1 : (N2 : Int) ≤ (k : Int) := by omega
      clear hwb HI
      have n7' := n7
      clear n7
      go_wp2
      go_loopw [11] (fun q wy => ∃ j : Nat, j ≤ N3 ∧ q = .int .i64 j ∧ Inv a7 N2 a8 N3 w3 wy) (fun q _ => N3 - (intOf q).toNat)
      case atStart => exact ⟨0, Nat.zero_le _, rfl, HJ.out⟩
      case round =>
        obtain ⟨j, hj, rfl, hi⟩ := hrel
        have HK := Lib.hid hi
        have hwb := hi.wb
        have hbl := hi.bel
        clear hi
        by_cases hjn : j < N3
        · have j1 : (j : Int) < (N3 : Int) := by omega
          have j0 : (0 : Int) ≤ (j : Int) := by omega
          obtain ⟨g, off, e, hg1, ⟨x0, q0⟩, f0⟩ := hwb j hjn
          subst e
          clear hwb hbl
          go_wp2
          go_roundw
          case rel => exact ⟨j + 1, by omega, by go_num, HK.out.set g _ hg1 _⟩
          case measure => simp [intOf]; omega
        · have j1 : (N3 : Int) ≤ (j : Int) := by omega
          clear hwb
          have HBD : RowKit.Hid (Below w3.heap.size w3 wr) := Lib.hid hbl
          have y0 : wr.cell? ⟨g1, a.length, none⟩ = some (.int .i64 77) := kp HBD.out XS0.out
          have la0 : (0 : Int) ≤ (a.length : Int) := by omega
          have wa : IntKind.i64.wrap ((a.length : Int) + 1) = (a.length : Int) + 1 := IntWalk.i64_in _ (by omega)
          have la1 : (0 : Int) ≤ (a.length : Int) + 1 := by omega
          have hx1 : (a.length : Int) < (a.length : Int) + 1 := by omega
          have ta1 : ((a.length : Int) + 1).toNat = a.length + 1 := by omega
          clear hbl
          go_wp2_with fail
          refine (SA.out _ _ _ (RS.out.below HBD.out) (RA3.out.below HBD.out)).mono ?_
          rintro en w12 ⟨rfl, b12⟩
          have y1 : w12.cell? ⟨g1, a.length, none⟩ = some (.int .i64 77) := kp b12 y0
          go_wp2
          go_ret
          exact ⟨by first | rfl | (simp; done), bt B3.out (bt HBD.out b12)⟩
theorem rest_end (t : Int) (va : Value) (a : List Int) (w : World) (_ : (Lit.int .i64 t).wf = true) (ha : RdE elZ w va a) (za : a.length * 8 ≤ 140737488351232) : Calls Try.prog 9 #[.int .i64 t, va] w fun e w' => e = .returned (.bool true) ∧ Below w.heap.size w w' := rest_walk t va a w ha za
end Sh
end Go.Proofs.Ytblbhkcnmkcdfaa
