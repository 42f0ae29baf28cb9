/- Ledgers: the document turns a posting back. -/
import Derived.Test.YtcppeligeodomaaLedRef4
import Derived.Deep.RegionLaw
set_option linter.unusedVariables false
namespace Go.Proofs.Ytcppeligeodomaa
open Go.RowKit
namespace Ld
open Pn
set_option maxHeartbeats 20000000 in
theorem turned_any (id nw : Int) (pa : Option Addr) (pc : Nat) (ls : List Ln) (w : World) (h : RdE elN w (.slice pa ls.length pc) ls) (hA : ∀ l ∈ ls, isA l.2) (h6 : ls.length ≤ 6) : Calls Try.prog 50 #[.agg #[.int .i64 id, .slice pa ls.length pc], .int .i64 nw] w fun e w' => ∃ a c, e = .returned (.agg #[.int .i64 nw, .slice a ls.length c]) ∧ RdE elN w' (.slice a ls.length c) (neg ls) ∧ Below w.heap.size w w' := by
  obtain ⟨a', cap', e, g1, g2, g3⟩ := h
  injection e with e1 e2 e3
  subst e1 e3
  clear e2
  have G3 := Lib.hid g3; clear g3
  have HA := Lib.hid hA; clear hA
  have hb0 := (br w).alloc (Nat.le_refl _) (.cells #[.int .i64 id, .slice pa ls.length pc] 42)
  have hb1 := hb0.alloc hb0.size (.cells #[.int .i64 0, .slice none 0 0] 42)
  have k1 : ((w.alloc (.cells #[.int .i64 id, .slice pa ls.length pc] 42)).alloc (.cells #[.int .i64 0, .slice none 0 0] 42)).cell? ⟨w.heap.size, 1, none⟩ = some (.slice pa ls.length pc) := kp ((br _).alloc (Nat.le_refl _) _) (by rw [World.cell?_alloc_mark]; rfl)
  have hB4 := Box.new (w.alloc (.cells #[.int .i64 id, .slice pa ls.length pc] 42)) 42 [.int .i64 0, .slice none 0 0]
  have hs1 : (w.alloc (.cells #[.int .i64 id, .slice pa ls.length pc] 42)).heap.size = w.heap.size + 1 := asz _ _
  rw [hs1] at hB4
  have HB1 := Lib.hid hb1; have K1 := Lib.hid k1; have HX4 := Lib.hid hB4
  clear hb0 hb1 k1 hB4 hs1
  go_enter Try.func50, Try.ntmps50
  go_wp2
  have hs2 : (((w.alloc (.cells #[.int .i64 id, .slice pa ls.length pc] 42)).alloc (.cells #[.int .i64 0, .slice none 0 0] 42))).heap.size = w.heap.size + 1 + 1 := by simp
  have hX5 := Box.new (((w.alloc (.cells #[.int .i64 id, .slice pa ls.length pc] 42)).alloc (.cells #[.int .i64 0, .slice none 0 0] 42))) 42 [.int .i64 nw, .slice none 0 0]
  rw [hs2] at hX5
  have hb5 : Below (w.heap.size + 1 + 1) (((w.alloc (.cells #[.int .i64 id, .slice pa ls.length pc] 42)).alloc (.cells #[.int .i64 0, .slice none 0 0] 42))) ((((w.alloc (.cells #[.int .i64 id, .slice pa ls.length pc] 42)).alloc (.cells #[.int .i64 0, .slice none 0 0] 42))).alloc (.cells #[.int .i64 nw, .slice none 0 0] 42)) := by
    rw [← hs2]; exact (br _).alloc (Nat.le_refl _) _
  generalize (w.alloc (.cells #[.int .i64 id, .slice pa ls.length pc] 42)).alloc (.cells #[.int .i64 0, .slice none 0 0] 42) = W2 at *
  go_loopw [6] (fun i wr => ∃ (j : Nat) (u : Value), j ≤ ls.length ∧ i = .int .i64 j ∧ Box wr (w.heap.size + 1 + 1) 42 [.int .i64 nw, u] ∧ ROwn elN wr (w.heap.size + 1 + 1 + 1) u (neg (ls.take j)) ∧ Below W2.heap.size W2 wr) (fun i _ => ls.length - (intOf i).toNat)
  case atStart => exact ⟨0, .slice none 0 0, Nat.zero_le _, rfl, hX5, ROwn.nil _ _, by rw [hs2]; exact hb5⟩
  case round =>
    obtain ⟨j, u, hj, rfl, hbox, hown, hbw⟩ := hrel
    have hbb : Below w.heap.size w wr := HB1.out.trans (hbw.mono HB1.out.size)
    have f2 := kp hbw K1.out
    have f5 := hbox.cell 1; have z5 := hbox.froz 1
    simp only [List.getElem?_cons_zero, List.getElem?_cons_succ] at f5
    have HBB := Lib.hid hbb; have HBW := Lib.hid hbw
    have hlt5 := hbox.lt
    by_cases hjt : j < ls.length
    · obtain ⟨g', off', rfl, hbl', hc'⟩ := G3.out (by omega)
      obtain ⟨q0, q1⟩ := eN_at hc' j hjt
      have e0 := (hbb.cell (p := ⟨g', off' + j * 2, none⟩) hbl').trans q0
      have e2 := (hbb.cell (p := ⟨g', off' + j * 2 + 1, none⟩) hbl').trans q1
      have i2 : (j : Int) < (ls.length : Int) := by omega
      have i3 : (0 : Int) ≤ (j : Int) := by omega
      have hA := HA.out ls[j] (List.getElem_mem hjt)
      unfold isA at hA
      have HNT := Lib.hid (neg_take ls j hjt)
      clear hc' q0 q1 G3 hbw hbb
      generalize ls[j].1 = ac at *; generalize ls[j].2 = pe at *
      have hwr : IntKind.i64.wrap (-pe) = -pe := IntWalk.i64_in _ (by omega)
      have hwr2 : IntKind.i64.wrap (0 - pe) = -pe := by rw [Int.zero_sub]; exact hwr
      have f5a : (wr.alloc (.cells #[.int .i64 ac, .int .i64 (-pe)] 62)).cell? ⟨w.heap.size + 1 + 1, 1, none⟩ = some u := kp ((br _).alloc (Nat.le_refl _) _) f5
      have hnl : (neg (ls.take j)).length = j := by unfold neg; simp; omega
      have HNL := Lib.hid hnl
      have ho1 := hown.next ((br wr).alloc (Nat.le_refl _) (.cells #[.int .i64 ac, .int .i64 (-pe)] 62))
      have ho2 : ROwn elN (wr.alloc (.cells #[.int .i64 ac, .int .i64 (-pe)] 62)).drew (w.heap.size + 1 + 1 + 1) u (neg (ls.take j)) := ho1.next (bn (br _) 1)
      have hl1 := rd_lit elN [(ac, -pe)] wr 62 (0, 0) wr.heap.size rfl (by simp [maxLen])
      have hl2 : RdE elN (wr.alloc (.cells #[.int .i64 ac, .int .i64 (-pe)] 62)).drew (.slice (some ⟨wr.heap.size, 0, none⟩) 1 1) [(ac, -pe)] := rdE_dr hl1
      have HBX := Lib.hid (hbox.alloc (.cells #[.int .i64 ac, .int .i64 (-pe)] 62))
      have ho2 := Lib.hid ho2; have hl2 := Lib.hid hl2
      clear hl1 ho1
      have a2 : (wr.alloc (.cells #[.int .i64 ac, .int .i64 (-pe)] 62)).drew.cell? ⟨w.heap.size, 1, none⟩ = some (.slice (some ⟨g', off', none⟩) ls.length pc) := kp (bn ((br wr).alloc (Nat.le_refl _) (.cells #[.int .i64 ac, .int .i64 (-pe)] 62)) 1) f2
      have a0 : (wr.alloc (.cells #[.int .i64 ac, .int .i64 (-pe)] 62)).drew.cell? ⟨g', off' + j * 2, none⟩ = some (.int .i64 ac) := kp (bn ((br wr).alloc (Nat.le_refl _) (.cells #[.int .i64 ac, .int .i64 (-pe)] 62)) 1) e0
      have a1 : (wr.alloc (.cells #[.int .i64 ac, .int .i64 (-pe)] 62)).drew.cell? ⟨g', off' + j * 2 + 1, none⟩ = some (.int .i64 pe) := kp (bn ((br wr).alloc (Nat.le_refl _) (.cells #[.int .i64 ac, .int .i64 (-pe)] 62)) 1) e2
      have HBX : RowKit.Hid (Box (wr.alloc (.cells #[.int .i64 ac, .int .i64 (-pe)] 62)).drew (w.heap.size + 1 + 1) 42 [.int .i64 nw, u]) := HBX
      have a2 := Lib.hid a2; have a0 := Lib.hid a0; have a1 := Lib.hid a1
      have HLT5 := Lib.hid hlt5
      clear hnl hown hA hbox hlt5
      go_wp2_with fail
      go_region_law (first
        | ((refine stepE_app elN (by rfl) (.tmp 17) (.tmp 32) (by rfl) (w.heap.size + 1 + 1 + 1) u (neg (ls.take j)) (by rfl) ho2.out _ [(ac, -pe)] (by rfl) hl2.out (by rw [HNL.out]; show j + 1 ≤ _; unfold maxLen; omega) (by rw [HNL.out]; show (j + 1) * 16 ≤ _; omega) (by have := HLT5.out; simp; omega) ?_); intro v5 w5 hown5 hb5 hfar5; have hsh := hown5.shape; rw [show (neg (ls.take j) ++ [(ac, -pe)]).length = j + 1 by rw [List.length_append, HNL.out]; rfl] at hsh; obtain ⟨a5, c5, rfl⟩ := hsh; have hbx5 := HBX.out.of_block (hb5.block (w.heap.size + 1 + 1) (by omega)); have hc1 := hbx5.cell 1; have hf1 := hbx5.froz 1; simp only [List.getElem?_cons_zero, List.getElem?_cons_succ] at hc1; have HO5 := Lib.hid hown5; have HB5 := Lib.hid hb5; have HX5 := Lib.hid hbx5; clear hown5 hfar5 hb5 hbx5)
        | fail)
      all_goals
        have hbx6 := HX5.out.set 1 (.slice a5 (j + 1) c5)
        have HB6 : RowKit.Hid (Below W2.heap.size W2 (w5.setCell ⟨w.heap.size + 1 + 1, 1, none⟩ (.slice a5 (j + 1) c5))) := Lib.hid (((bn (HBW.out.alloc HBW.out.size (.cells #[.int .i64 ac, .int .i64 (-pe)] 62)) 1).trans (HB5.out.mono (by omega))).setCell (show W2.heap.size ≤ w.heap.size + 1 + 1 by omega) _)
        have HO6 : RowKit.Hid (ROwn elN (w5.setCell ⟨w.heap.size + 1 + 1, 1, none⟩ (.slice a5 (j + 1) c5)) (w.heap.size + 1 + 1 + 1) (.slice a5 (j + 1) c5) (neg (ls.take (j + 1)))) := Lib.hid (by
          rw [HNT.out]
          exact HO5.out.set (fun e => by have := (HO5.out.lt _ e).1; omega))
        have HX6 := Lib.hid hbx6
        clear hbx6 HO5 HB5 HX5 HBX ho2 hl2 a2 a0 a1 f2 e0 e2 f5 z5
        go_wp2
        go_roundw
        case rel => exact ⟨j + 1, _, by omega, by go_num, HX6.out, HO6.out, HB6.out⟩
        case measure => simp [intOf]; omega
    · have e : j = ls.length := by omega
      subst e
      rw [List.take_length] at hown
      have hsh := hown.shape
      rw [show (neg ls).length = ls.length by simp [neg]] at hsh
      obtain ⟨a6, c6, rfl⟩ := hsh
      have f0 := hbox.cell 0; have f1 := hbox.cell 1
      simp only [List.getElem?_cons_zero, List.getElem?_cons_succ] at f0 f1
      have HOW := Lib.hid hown
      have hx4 := HX4.out.next hbw
      have z4 := hx4.froz 0; have z4' := hx4.froz 1
      have y4 := hx4.cell 0; have y4' := hx4.cell 1
      simp only [List.getElem?_cons_zero, List.getElem?_cons_succ] at y4 y4'
      have HX := Lib.hid hx4
      clear hx4 hbox hown hbw hbb G3
      go_wp2_with fail
      have P := (HX.out.set 0 (.int .i64 nw)).set 1 (.slice a6 ls.length c6)
      have Q : Below w.heap.size w ((wr.setCell ⟨w.heap.size + 1, 0, none⟩ (.int .i64 nw)).setCell ⟨w.heap.size + 1, 1, none⟩ (.slice a6 ls.length c6)) := (HBB.out.setCell (show w.heap.size ≤ w.heap.size + 1 by omega) _).setCell (show w.heap.size ≤ w.heap.size + 1 by omega) _
      have R : RdE elN ((wr.setCell ⟨w.heap.size + 1, 0, none⟩ (.int .i64 nw)).setCell ⟨w.heap.size + 1, 1, none⟩ (.slice a6 ls.length c6)) (.slice a6 ls.length c6) (neg ls) :=
        ((HOW.out.set (fun e => by have := (HOW.out.lt _ e).1; omega)).set (fun e => by have := (HOW.out.lt _ e).1; omega)).rd
      generalize (wr.setCell ⟨w.heap.size + 1, 0, none⟩ (.int .i64 nw)).setCell ⟨w.heap.size + 1, 1, none⟩ (.slice a6 ls.length c6) = W5 at P Q R ⊢
      have r0 := P.cell 0; have r1 := P.cell 1
      simp only [List.set_cons_zero, List.set_cons_succ, List.getElem?_cons_zero, List.getElem?_cons_succ] at r0 r1
      exact bodyPost_ret (v := .agg #[.int .i64 nw, .slice a6 ls.length c6]) (by simp [results, Try.results50, go_sem, r0, r1]) rfl ⟨a6, c6, rfl, R, Q⟩
end Ld
end Go.Proofs.Ytcppeligeodomaa
