/- Jefferson's way: the heap of bidders in memory. -/
import Derived.Test.YtblbhkcnmkcdfaaJeffW
import Derived.Deep.RegionLaw
set_option linter.unusedSimpArgs false
set_option linter.unusedVariables false
namespace Go.Proofs.Ytblbhkcnmkcdfaa
open Go.RowKit
namespace Sh
open Stb
def bid (ws : List Int) (hs : Nat → Int) (x : Int) : Bd := (x, wv ws x.toNat, hs x.toNat)
def lstB (ws : List Int) (hs : Nat → Int) (n : Nat) (d : Arr) : List Bd := (List.range n).map fun p => bid ws hs (d p)
theorem lstB_len (ws : List Int) (hs : Nat → Int) (n : Nat) (d : Arr) : (lstB ws hs n d).length = n := by simp [lstB]
theorem lstB_at (ws : List Int) (hs : Nat → Int) (n : Nat) (d : Arr) (i : Nat) (h : i < (lstB ws hs n d).length) : (lstB ws hs n d)[i] = bid ws hs (d i) := by simp [lstB]
theorem lstB_succ (ws : List Int) (hs : Nat → Int) (n : Nat) (d : Arr) : lstB ws hs (n + 1) d = lstB ws hs n d ++ [bid ws hs (d n)] := by unfold lstB; rw [List.range_succ, List.map_append]; rfl
theorem lstB_swp (ws : List Int) (hs : Nat → Int) (n : Nat) (d : Arr) (i j : Nat) (hi : i < n) (hj : j < n) : ((lstB ws hs n d).set i (bid ws hs (d j))).set j (bid ws hs (d i)) = lstB ws hs n (swp d i j) := by
  apply List.ext_getElem
  · simp [lstB]
  · intro k h1 h2
    have hk : k < n := by simpa [lstB] using h2
    rw [lstB_at, List.getElem_set]
    unfold swp
    by_cases c1 : j = k
    · rw [if_pos c1]
      by_cases c2 : k = i
      · rw [if_pos c2, ← c2, c1]
      · rw [if_neg c2, if_pos c1.symm]
    · rw [if_neg c1, List.getElem_set]
      by_cases c2 : i = k
      · rw [if_pos c2, if_pos c2.symm]
      · rw [if_neg c2, if_neg (fun e => c2 e.symm), if_neg (fun e => c1 e.symm)]
        simp [lstB]
/-- the heap behind its pointer -/
structure HSt (w0 : World) (ws : List Int) (hs : Nat → Int) (n : Nat) (d : Arr) (v : Value) (w : World) : Prop where
  c : w.cell? ⟨w0.heap.size, 0, none⟩ = some v
  fz : w.frozen? ⟨w0.heap.size, 0, none⟩ = false
  own : ROwn elB w (w0.heap.size + 1) v (lstB ws hs n d)
  bel : Below w0.heap.size w0 w
section
variable {w0 w w' : World} {ws : List Int} {hs : Nat → Int} {n : Nat} {d : Arr} {v : Value}
theorem HSt.lt (h : HSt w0 ws hs n d v w) : w0.heap.size < w.heap.size := World.block_lt_of_cell? w _ h.c
theorem HSt.next (h : HSt w0 ws hs n d v w) (hb : Below w.heap.size w w') : HSt w0 ws hs n d v w' :=
  ⟨kp hb h.c, (hb.frozen (p := ⟨w0.heap.size, 0, none⟩) h.lt).trans h.fz, h.own.next hb, h.bel.trans (hb.mono h.bel.size)⟩
theorem HSt.shape (h : HSt w0 ws hs n d v w) (hn : 0 < n) : ∃ g c, v = .slice (some ⟨g, 0, none⟩) n c ∧ w0.heap.size + 1 ≤ g := by
  obtain ⟨g, c, e, h1, _⟩ := own_someZ h.own (by rw [lstB_len]; exact hn)
  rw [lstB_len] at e
  exact ⟨g, c, e, h1⟩
theorem HSt.kept {g c : Nat} (h : HSt w0 ws hs n d (.slice (some ⟨g, 0, none⟩) n c) w) (hg : w0.heap.size + 1 ≤ g) (hk : KeptB [g] w w') {d' : Arr} (ho : ROwn elB w' (w0.heap.size + 1) (.slice (some ⟨g, 0, none⟩) n c) (lstB ws hs n d')) : HSt w0 ws hs n d' (.slice (some ⟨g, 0, none⟩) n c) w' :=
  ⟨hk.keep h.c (by simp; omega), (hk.frozen (p := ⟨w0.heap.size, 0, none⟩) h.lt (by simp; omega)).trans h.fz, ho, h.bel.trans (hk.below h.bel.size (by simp; omega))⟩
end
theorem len_hx : ((Try.prog.info? 39).bind fun i => (i.methods.find? (·.name == "Len")).map fun m => (m.path, m.func)) = some (#[], some (51, false)) := by kernel_rfl
theorem less_hx : ((Try.prog.info? 39).bind fun i => (i.methods.find? (·.name == "Less")).map fun m => (m.path, m.func)) = some (#[], some (52, false)) := by kernel_rfl
theorem swap_hx : ((Try.prog.info? 39).bind fun i => (i.methods.find? (·.name == "Swap")).map fun m => (m.path, m.func)) = some (#[], some (54, false)) := by kernel_rfl
theorem loadB (a : Addr) (w : World) (v : Value) (hc : w.cell? a = some v) : (loadVar 41 a).run Try.prog w = .ok v w := by
  simp [loadVar, isAgg, underlying, Try.underlying41, hc, Result.andThen]
abbrev FUEL : Nat := 175
theorem fuel_is : Try.prog.types.size + Made.depth = FUEL := by kernel_rfl
theorem meth_len (a : Addr) (w : World) (v : Value) (hc : w.cell? a = some v) : (method 175 39 (.pointer (some a)) "Len").run Try.prog w = .ok (51, v) w := meth_of 174 len_hx Try.underlying39 a w v (loadB a w v hc)
theorem meth_less (a : Addr) (w : World) (v : Value) (hc : w.cell? a = some v) : (method 175 39 (.pointer (some a)) "Less").run Try.prog w = .ok (52, v) w := meth_of 174 less_hx Try.underlying39 a w v (loadB a w v hc)
theorem meth_swap (a : Addr) (w : World) (v : Value) (hc : w.cell? a = some v) : (method 175 39 (.pointer (some a)) "Swap").run Try.prog w = .ok (54, v) w := meth_of 174 swap_hx Try.underlying39 a w v (loadB a w v hc)
theorem ahead_len (a : Addr) (w : World) : (nilAhead 175 39 (.pointer (some a)) "Len").run Try.prog w = .ok (some false) w := ahead_of 174 len_hx Try.underlying39 a w
theorem ahead_less (a : Addr) (w : World) : (nilAhead 175 39 (.pointer (some a)) "Less").run Try.prog w = .ok (some false) w := ahead_of 174 less_hx Try.underlying39 a w
theorem ahead_swap (a : Addr) (w : World) : (nilAhead 175 39 (.pointer (some a)) "Swap").run Try.prog w = .ok (some false) w := ahead_of 174 swap_hx Try.underlying39 a w
theorem meth_push (a : Addr) (w : World) : (method 175 39 (.pointer (some a)) "Push").run Try.prog w = .ok (53, .pointer (some a)) w := by kernel_rfl
theorem ahead_push (a : Addr) (w : World) : (nilAhead 175 39 (.pointer (some a)) "Push").run Try.prog w = .ok (some false) w := by kernel_rfl
theorem ta_any (v : Value) (w : World) : (Instr.typeAssert (.iface 44 v) 20 44 false).run Try.prog w = .ok v w := by kernel_rfl
/-- weights and what one has, within bounds -/
structure Bds (ws : List Int) (hs : Nat → Int) : Prop where
  w : ∀ i, 0 ≤ wv ws i ∧ wv ws i ≤ 100000
  h : ∀ i, 0 ≤ hs i ∧ hs i ≤ 100000
theorem lessB_bid (ws : List Int) (hs : Nat → Int) (x y : Int) : lessB (bid ws hs x) (bid ws hs y) = decide (lessP ws hs x y) := by
  rw [lessB_is]; rfl
theorem Bds.wo {ws : List Int} {hs : Nat → Int} (h : Bds ws hs) : Wo (lessP ws hs) := ⟨fun h1 h2 => lessP_tr (fun i => (h.w i).1) (fun i => (h.h i).1) h1 h2, lessP_ir, lessP_tot⟩
theorem less_st {w0 w : World} {ws : List Int} {hs : Nat → Int} {n g c : Nat} {d : Arr} (hb : Bds ws hs) (h : HSt w0 ws hs n d (.slice (some ⟨g, 0, none⟩) n c) w) (hn : n ≤ 1000) (i j : Nat) (hi : i < n) (hj : j < n) :
    Calls Try.prog 52 #[.slice (some ⟨g, 0, none⟩) n c, .int .i64 i, .int .i64 j] w (BoolZ (decide (lessP ws hs (d i) (d j))) w) := by
  have hx := eB_at h.own i (by rw [lstB_len]; exact hi)
  have hy := eB_at h.own j (by rw [lstB_len]; exact hj)
  rw [lstB_at] at hx hy
  rw [← lessB_bid]
  exact less_any g n c i j (bid ws hs (d i)) (bid ws hs (d j)) w hi hj hn hx hy ⟨(hb.w _).1, (hb.w _).2, (hb.h _).1, (hb.h _).2⟩ ⟨(hb.w _).1, (hb.w _).2, (hb.h _).1, (hb.h _).2⟩
theorem swap_st {w0 w : World} {ws : List Int} {hs : Nat → Int} {n g c : Nat} {d : Arr} (h : HSt w0 ws hs n d (.slice (some ⟨g, 0, none⟩) n c) w) (hg : w0.heap.size + 1 ≤ g) (hn : n ≤ 1000) (i j : Nat) (hi : i < n) (hj : j < n) (hij : i ≠ j) :
    Calls Try.prog 54 #[.slice (some ⟨g, 0, none⟩) n c, .int .i64 i, .int .i64 j] w fun e w' => e = .returned (.tuple #[]) ∧ HSt w0 ws hs n (swp d i j) (.slice (some ⟨g, 0, none⟩) n c) w' := by
  refine (swap_any _ g n c _ i j w h.own (lstB_len _ _ _ _) hi hj hij hn).mono ?_
  rintro e w' ⟨rfl, ho, hk⟩
  rw [lstB_at, lstB_at, lstB_swp _ _ _ _ _ _ hi hj] at ho
  exact ⟨rfl, h.kept hg hk ho⟩
set_option maxRecDepth 100000 in
set_option maxHeartbeats 4000000 in
theorem push_st {w0 w : World} {ws : List Int} {hs : Nat → Int} {n : Nat} {d : Arr} {v : Value} (h : HSt w0 ws hs n d v w) (hn : n ≤ 1000) (xa xw xh : Int) (hx : bid ws hs (d n) = (xa, xw, xh)) :
    Calls Try.prog 53 #[.pointer (some ⟨w0.heap.size, 0, none⟩), .iface 44 (.agg #[.int .i64 xa, .int .i64 xw, .int .i64 xh])] w fun e w' => e = .returned (.tuple #[]) ∧ ∃ v', HSt w0 ws hs (n + 1) d v' w' := by
  have c0 := h.c
  have H := Lib.hid h
  have HLN : RowKit.Hid ((lstB ws hs n d).length = n) := Lib.hid (lstB_len _ _ _ _)
  have HLS : RowKit.Hid (lstB ws hs (n + 1) d = lstB ws hs n d ++ [(xa, xw, xh)]) := Lib.hid (by rw [lstB_succ, hx])
  have hl := h.lt
  have HO1 := Lib.hid (h.own.next (bn (br w) 1))
  have HW1 : RowKit.Hid (w0.heap.size + 1 ≤ w.drew.heap.size) := Lib.hid hl
  have TA := ta_any
  clear h hx
  go_enter Try.func53, Try.ntmps53
  go_wp2_with fail
  go_region_law (first
    | ((refine stepE_app elB (by rfl) (.tmp 7) (.tmp 10) (by rfl) (w0.heap.size + 1) v (lstB ws hs n d) (by rfl) (HO1.out.next ((br w.drew).alloc (Nat.le_refl _) _)) _ [(xa, xw, xh)] (by rfl) (rd_lit elB [(xa, xw, xh)] w.drew _ _ w.drew.heap.size rfl (by simp [maxLen])) (by rw [HLN.out]; show n + 1 ≤ _; unfold maxLen; omega) (by rw [HLN.out]; show (n + 1) * 24 ≤ _; omega) (by have := HW1.out; simp; omega) ?_); intro v5 w5 hown5 hb5 hfar5; obtain ⟨a5, c5, e5⟩ := own_shapeZ hown5; rw [show (lstB ws hs n d ++ [(xa, xw, xh)]).length = n + 1 by rw [List.length_append, HLN.out]; rfl] at e5; subst e5; have q5 : w5.cell? ⟨w0.heap.size, 0, none⟩ = some v := (hb5.cell (p := ⟨w0.heap.size, 0, none⟩) (by simp)).trans (kp ((br w.drew).alloc (Nat.le_refl _) _) (show w.drew.cell? ⟨w0.heap.size, 0, none⟩ = some v from H.out.c)); have q6 : w5.frozen? ⟨w0.heap.size, 0, none⟩ = false := (hb5.frozen (p := ⟨w0.heap.size, 0, none⟩) (by simp)).trans ((((br w.drew).alloc (Nat.le_refl _) _).frozen (p := ⟨w0.heap.size, 0, none⟩) hl).trans H.out.fz); have HO5 := Lib.hid hown5; have HB5 := Lib.hid hb5; clear hown5 hb5 hfar5)
    | fail)
  all_goals
    have HF : RowKit.Hid (HSt w0 ws hs (n + 1) d (.slice a5 (n + 1) c5) (w5.setCell ⟨w0.heap.size, 0, none⟩ (.slice a5 (n + 1) c5))) := Lib.hid ⟨World.cell?_setCell_same w5 _ _ q5, by rw [World.frozen?_setCell]; exact q6, by rw [HLS.out]; exact own_set HO5.out _ _ _ (Nat.lt_succ_self _), ((H.out.bel.drew.alloc (Nat.le_of_lt hl) _).trans (HB5.out.mono (Nat.le_succ _))).setCell (Nat.le_refl _) _⟩
    go_wp2
    go_end0
    exact ⟨rfl, _, HF.out⟩
end Sh
end Go.Proofs.Ytblbhkcnmkcdfaa
