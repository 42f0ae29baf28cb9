/- Fares: what a range costs. (gen_fare.py) -/
import Derived.Test.YtcppeligeodomaaFareRef
import Derived.Test.YtcppeligeodomaaPenceRef2
set_option linter.unusedVariables false
namespace Go.Proofs.Ytcppeligeodomaa
open Go.RowKit
namespace Fa
open Pn
/-- the price of zones x to y, so many percent off -/
def fareOf (m : List (List Int)) (x y pc way : Int) : Int × Int :=
  if chkF m ≠ 0 then (0, chkF m) else if x < 0 ∨ y < x ∨ (m.length : Int) ≤ y ∨ pc < 0 ∨ 100 < pc then (0, 3) else Pn.part (price m x.toNat y.toNat) (100 - pc) 100 way
abbrev PairQ (r : Int × Int) (w : World) (e : Ending) (w' : World) : Prop := e = .returned (.tuple #[.int .i64 r.1, .int .i64 r.2]) ∧ Below w.heap.size w w'
/-- where a price stands -/
theorem price_cells {v : Value} {rs : List Rw} {x y : Nat} {w : World} (h : RdF w v rs) (hok : Ok (mat rs)) (hxy : x ≤ y) (hy : y < rs.length) :
    ∃ (g off cap g' off' ll rc : Nat), v = .slice (some ⟨g, off, none⟩) rs.length cap ∧ w.cell? ⟨g, off + x, none⟩ = some (.slice (some ⟨g', off', none⟩) ll rc) ∧ w.cell? ⟨g', off' + (y - x), none⟩ = some (.int .i64 (price (mat rs) x y)) ∧ y - x < ll ∧ ll ≤ 6 := by
  obtain ⟨hx', hi, hp⟩ := price_at hok hxy (by simpa using hy)
  have hx : x < rs.length := by omega
  have hrl := hok.row x hx'
  have hsix := hok.six
  obtain ⟨hr, hls⟩ := h
  have hrow := hls _ (List.getElem_mem hx)
  obtain ⟨a, cap, rfl, h1, h2, h3⟩ := hr
  obtain ⟨g, off, rfl, hbl, hc⟩ := h3 (Nat.lt_of_le_of_lt (Nat.zero_le _) hx)
  have d0 := eR_at hc x hx
  have hml : (mat rs)[x] = rs[x].ls := by simp
  have hi2 : y - x < rs[x].ls.length := by rw [← hml]; exact hi
  rw [hml] at hrl
  obtain ⟨a', cap', e, g1, g2, g3⟩ := hrow
  obtain ⟨g', off', e2, hbl', hc'⟩ := g3 (Nat.lt_of_le_of_lt (Nat.zero_le _) hi2)
  have e0 := eI_at hc' (y - x) hi2
  have hpv : price (mat rs) x y = rs[x].ls[y - x] := by rw [hp]; simp
  injection e with e3 e4 e5
  subst e2
  unfold Rw.v at d0
  rw [e3] at d0
  exact ⟨g, off, cap, g', off', rs[x].ls.length, rs[x].cap, rfl, d0, by rw [hpv]; exact e0, hi2, by omega⟩
set_option maxHeartbeats 4000000 in
theorem of_any (v : Value) (rs : List Rw) (x y pc way : Int) (w : World) (h : RdF w v rs) : Calls Try.prog 15 #[v, .int .i64 x, .int .i64 y, .int .i64 pc, .int .i64 way] w (PairQ (fareOf (mat rs) x y pc way) w) := by
  have C1 := Lib.hid (check_any v rs w h)
  have hml : (mat rs).length = rs.length := List.length_map _
  have hle := h.rd.len_le
  unfold fareOf
  rw [hml]
  by_cases c1 : chkF (mat rs) ≠ 0
  · rw [if_pos c1]
    have hn : (chkF (mat rs) != 0) = true := by simpa using c1
    clear c1 hml h
    generalize chkF (mat rs) = ec at *
    go_enter Try.func15, Try.ntmps15
    go_wp2_with fail
    refine C1.out.mono ?_
    rintro en w1 ⟨rfl, hb1⟩
    go_wp2
    go_ret2
    exact ⟨rfl, hb1⟩
  rw [if_neg c1]
  have c1' : chkF (mat rs) = 0 := Classical.byContradiction c1
  rw [c1'] at C1
  have hok := (chkF_ok _).1 c1'
  by_cases c2 : x < 0 ∨ y < x ∨ (rs.length : Int) ≤ y ∨ pc < 0 ∨ 100 < pc
  · rw [if_pos c2]
    have hcase : x < 0 ∨ (0 ≤ x ∧ (rs.length : Int) ≤ y) ∨ (0 ≤ x ∧ y < (rs.length : Int) ∧ y < x) ∨ (0 ≤ x ∧ y < (rs.length : Int) ∧ x ≤ y ∧ pc < 0) ∨ (0 ≤ x ∧ y < (rs.length : Int) ∧ x ≤ y ∧ 0 ≤ pc ∧ 100 < pc) := by omega
    obtain ⟨a, cap, rfl, -⟩ := h.rd
    clear c1 c1' hok c2 hml
    rcases hcase with h1 | ⟨g1, h1⟩ | ⟨g1, g2, h1⟩ | ⟨g1, g2, g3, h1⟩ | ⟨g1, g2, g3, g4, h1⟩
    all_goals
      go_enter Try.func15, Try.ntmps15
      go_wp2_with fail
      refine C1.out.mono ?_
      rintro en w1 ⟨rfl, hb1⟩
      go_wp2
      go_ret2
      exact ⟨rfl, hb1⟩
  · rw [if_neg c2]
    have b1 : ¬ x < 0 := by omega
    have b2 : ¬ y < x := by omega
    have b3 : ¬ (rs.length : Int) ≤ y := by omega
    have b4 : ¬ pc < 0 := by omega
    have b5 : ¬ 100 < pc := by omega
    obtain ⟨X, hX⟩ : ∃ X : Nat, x = (X : Int) := ⟨x.toNat, by omega⟩
    obtain ⟨Y, hY⟩ : ∃ Y : Nat, y = (Y : Int) := ⟨y.toNat, by omega⟩
    subst hX hY
    simp only [Int.toNat_natCast]
    have hxy : X ≤ Y := by omega
    have hy : Y < rs.length := by omega
    have hw : IntKind.i64.wrap (100 - pc) = 100 - pc := IntWalk.i64_in _ (by omega)
    clear c1 c1' c2
    have CP := Lib.hid (fun w' (hb : Below w.heap.size w w') => price_any v rs X Y w' (h.next hb) hok hxy hy)
    have CQ := Lib.hid (fun p w' => part_any p (100 - pc) 100 way w')
    obtain ⟨a, cap, rfl, -⟩ := h.rd
    clear h hok hml
    generalize price (mat rs) X Y = P at *
    go_enter Try.func15, Try.ntmps15
    go_wp2_with fail
    refine C1.out.mono ?_
    rintro en w1 ⟨rfl, hb1⟩
    go_wp2_with fail
    refine (CP.out _ hb1).mono ?_
    rintro en w2 ⟨rfl, rfl⟩
    go_wp2_with fail
    refine (CQ.out _ _).mono ?_
    rintro en w3 ⟨rfl, hb3⟩
    go_wp2
    go_ret2
    exact ⟨rfl, bt hb1 hb3⟩
set_option maxHeartbeats 4000000 in
theorem ofR_any (v : Value) (rs : List Rw) (x y pc way : Int) (w : World) (h : RdF w v rs) : Calls Try.prog 17 #[v, .int .i64 x, .int .i64 y, .int .i64 pc, .int .i64 way] w (PairQ (fareOf (mat rs) x y pc way) w) := by
  have C1 := Lib.hid (checkR_any v rs w h)
  have hml : (mat rs).length = rs.length := List.length_map _
  have hle := h.rd.len_le
  unfold fareOf
  rw [hml]
  by_cases c1 : chkF (mat rs) ≠ 0
  · rw [if_pos c1]
    have hn : (chkF (mat rs) != 0) = true := by simpa using c1
    clear c1 hml h
    generalize chkF (mat rs) = ec at *
    go_enter Try.func17, Try.ntmps17
    go_wp2_with fail
    refine C1.out.mono ?_
    rintro en w1 ⟨rfl, hb1⟩
    go_wp2
    go_ret2
    exact ⟨rfl, hb1⟩
  rw [if_neg c1]
  have c1' : chkF (mat rs) = 0 := Classical.byContradiction c1
  rw [c1'] at C1
  have hok := (chkF_ok _).1 c1'
  by_cases c2 : x < 0 ∨ y < x ∨ (rs.length : Int) ≤ y ∨ pc < 0 ∨ 100 < pc
  · rw [if_pos c2]
    have hcase : x < 0 ∨ (0 ≤ x ∧ y < x) ∨ (0 ≤ x ∧ x ≤ y ∧ (rs.length : Int) ≤ y) ∨ (0 ≤ x ∧ x ≤ y ∧ y < (rs.length : Int) ∧ pc < 0) ∨ (0 ≤ x ∧ x ≤ y ∧ y < (rs.length : Int) ∧ 0 ≤ pc ∧ 100 < pc) := by omega
    obtain ⟨a, cap, rfl, -⟩ := h.rd
    clear c1 c1' hok c2 hml
    rcases hcase with h1 | ⟨g1, h1⟩ | ⟨g1, g2, h1⟩ | ⟨g1, g2, g3, h1⟩ | ⟨g1, g2, g3, g4, h1⟩
    all_goals
      go_enter Try.func17, Try.ntmps17
      go_wp2_with fail
      refine C1.out.mono ?_
      rintro en w1 ⟨rfl, hb1⟩
      go_wp2
      go_ret2
      exact ⟨rfl, hb1⟩
  · rw [if_neg c2]
    have b1 : ¬ x < 0 := by omega
    have b2 : ¬ y < x := by omega
    have b3 : ¬ (rs.length : Int) ≤ y := by omega
    have b4 : ¬ pc < 0 := by omega
    have b5 : ¬ 100 < pc := by omega
    obtain ⟨X, hX⟩ : ∃ X : Nat, x = (X : Int) := ⟨x.toNat, by omega⟩
    obtain ⟨Y, hY⟩ : ∃ Y : Nat, y = (Y : Int) := ⟨y.toNat, by omega⟩
    subst hX hY
    simp only [Int.toNat_natCast]
    have hxy : X ≤ Y := by omega
    have hy : Y < rs.length := by omega
    have hw : IntKind.i64.wrap (100 - pc) = 100 - pc := IntWalk.i64_in _ (by omega)
    clear c1 c1' c2
    have CQ := Lib.hid (fun p w' => partR_any p (100 - pc) 100 way w')
    have HPC := Lib.hid (fun w' (hb : Below w.heap.size w w') => price_cells (h.next hb) hok hxy hy)
    obtain ⟨a, cap, rfl, -⟩ := h.rd
    have i0 : (0 : Int) ≤ (X : Int) := by omega
    have i1 : (X : Int) < (rs.length : Int) := by omega
    have i2 : (Y : Int) - (X : Int) = ((Y - X : Nat) : Int) := (Int.ofNat_sub hxy).symm
    have hw2 : IntKind.i64.wrap ((Y : Int) - (X : Int)) = ((Y - X : Nat) : Int) := by rw [i2]; exact IntWalk.i64_in _ (by omega)
    clear h hok hml i2
    generalize price (mat rs) X Y = P at *
    generalize hz : Y - X = z at *
    clear hz
    go_enter Try.func17, Try.ntmps17
    go_wp2_with fail
    refine C1.out.mono ?_
    rintro en w1 ⟨rfl, hb1⟩
    obtain ⟨g, off, cap', g', off', ll, rc, e, d0, d1, i3, i4⟩ := HPC.out _ hb1
    injection e with e1 e2 e3
    subst e1 e3
    have i5 : (z : Int) < (ll : Int) := by omega
    have i6 : (0 : Int) ≤ (z : Int) := by omega
    go_wp2_with fail
    refine (CQ.out _ _).mono ?_
    rintro en w3 ⟨rfl, hb3⟩
    go_wp2
    go_ret2
    exact ⟨rfl, bt hb1 hb3⟩
end Fa
end Go.Proofs.Ytcppeligeodomaa
