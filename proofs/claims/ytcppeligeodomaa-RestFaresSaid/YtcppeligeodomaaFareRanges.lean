/- Fares: the ranges of zones, as an iterator hands them on. -/
import Derived.Test.YtcppeligeodomaaFareCheck
import Derived.RangeFuncNested
import Derived.RangeFuncBound
import Derived.RangeFuncCalls
import Derived.RangeFuncLeaves
import Derived.RangeFuncBox
import Derived.Shelf.Abstract
import Derived.Shelf.RegionOpen
import Derived.WalkKit
import Derived.OwnWalkIn
import Derived.TacticsInMore
import Derived.LoopNIn
import Derived.LoopIn
import Derived.Maps.AppendAt
set_option linter.unusedVariables false
namespace Go.Proofs.Ytcppeligeodomaa
open Go.RowKit Go.Shelf
attribute [local go_sem] Oper.semAt_some
namespace Fa
/-- of one size, so many from a on -/
def rowE (s : Nat) : Nat → Nat → List (Int × Int)
  | 0, _ => []
  | k + 1, a => ((a : Int), (a : Int) + (s : Int)) :: rowE s k (a + 1)
def allE (n : Nat) : Nat → Nat → List (Int × Int)
  | 0, _ => []
  | k + 1, s => rowE s (n - s) 0 ++ allE n k (s + 1)
def rngE (n : Nat) : List (Int × Int) := allE n n 0
theorem rowE_len (s : Nat) : ∀ k a, (rowE s k a).length = k
  | 0, _ => rfl
  | k + 1, a => by simp [rowE, rowE_len s k]
theorem allE_len (n : Nat) : ∀ k s, (allE n k s).length ≤ k * n
  | 0, _ => by simp [allE]
  | k + 1, s => by
    have := allE_len n k (s + 1)
    simp only [allE, List.length_append, rowE_len]
    rw [Nat.add_mul]; omega
theorem rngE_len (n : Nat) (h : n ≤ 6) : (rngE n).length ≤ 36 := by
  have := allE_len n n 0
  have h2 : n * n ≤ 6 * 6 := Nat.mul_le_mul h h
  unfold rngE; omega
set_option maxRecDepth 100000 in
set_option maxHeartbeats 2000000 in
theorem ranges1_in (n : Nat) (l Bn : Nat) (N : Nat) (hN : N ≤ 6) (J Jx : List (Int × Int) → World → Prop)
    (hY : ∀ pre x W, (∃ a b : Nat, x = ((a : Int), (b : Int)) ∧ a ≤ b ∧ b < N) → J pre W → pre.length < 64 → YieldAt Fence.wide (n - 1) Try.prog l #[.int .i64 x.1, .int .i64 x.2] W fun e W' =>
      (e = .returned (.bool true) ∧ J (pre ++ [x]) W' ∧ W'.heap[Bn]? = W.heap[Bn]?) ∨ (e = .returned (.bool false) ∧ Jx (pre ++ [x]) W'))
    (W : World) (hBn : W.cell? ⟨Bn, 0, none⟩ = some (.int .i64 N)) (h0 : J [] W) :
    CallsIn Fence.wide n Try.prog 58 #[.func (.yield l) #[] #[], .pointer (some ⟨Bn, 0, none⟩)] W fun e W' => (∃ v, e = .returned v) ∧
      ((∃ ys, ys = rngE N ∧ J ys W') ∨ (∃ pre, pre <+: rngE N ∧ Jx pre W')) := by
  have hlen := rngE_len N hN
  refine callsIn_of_wp Try.func58 rfl trivial ?_ rfl
  simp only [Try.ntmps58, List.size_toArray, List.length_cons, List.length_nil, Nat.reduceAdd, Nat.reduceSub, Array.replicate_succ, Array.replicate_zero, List.push_toArray, List.append_toArray, List.nil_append, List.cons_append]
  gi_wp2
  gi_loopw [6] (fun i wr => ∃ (s : Nat) (pre : List (Int × Int)), s ≤ N ∧ i = .int .i64 s ∧ rngE N = pre ++ allE N (N - s) s ∧ J pre wr ∧ wr.cell? ⟨Bn, 0, none⟩ = some (.int .i64 N))
    (fun i _ => N - (intOf i).toNat)
  case atStart => exact ⟨0, [], by omega, rfl, rfl, h0, hBn⟩
  case round =>
    obtain ⟨s, pre, hs, rfl, hev, hJ, hcell⟩ := hrel
    have HEV := Lib.hid hev; have HJ := Lib.hid hJ
    by_cases hlt : s < N
    · have i1 : (s : Int) < (N : Int) := by omega
      have hw : IntKind.i64.wrap ((N : Int) - (s : Int)) = ((N - s : Nat) : Int) := by
        rw [show (N : Int) - (s : Int) = ((N - s : Nat) : Int) from (Int.ofNat_sub hs).symm]; exact IntWalk.i64_in _ (by omega)
      have hev1 : rngE N = pre ++ (rowE s (N - s) 0 ++ allE N (N - (s + 1)) (s + 1)) := by
        rw [hev]
        obtain ⟨k, hk⟩ : ∃ k, N - s = k + 1 := ⟨N - s - 1, by omega⟩
        have e1 : allE N (N - s) s = rowE s (N - s) 0 ++ allE N (N - (s + 1)) (s + 1) := by
          rw [hk, show N - (s + 1) = k by omega]
          show rowE s (N - s) 0 ++ allE N k (s + 1) = _
          rw [hk]
        rw [e1]
      have HEV1 := Lib.hid hev1
      obtain ⟨M, hM⟩ : ∃ M, N - s = M := ⟨_, rfl⟩
      rw [hM] at hw HEV1
      have HM := Lib.hid hM
      clear hev hJ hev1 hM
      gi_wp2
      gi_loopw [12] (fun i wy => ∃ (a : Nat) (pre : List (Int × Int)), a ≤ M ∧ i = .int .i64 a ∧ rngE N = pre ++ (rowE s (M - a) a ++ allE N (N - (s + 1)) (s + 1)) ∧ J pre wy ∧ wy.cell? ⟨Bn, 0, none⟩ = some (.int .i64 N))
        (fun i _ => M - (intOf i).toNat)
      case atStart => exact ⟨0, pre, by omega, rfl, HEV1.out, HJ.out, hcell⟩
      case round =>
        obtain ⟨a, pre2, ha, rfl, hev2, hJ2, hcell2⟩ := hrel
        have HEV2 := Lib.hid hev2; have HJ2 := Lib.hid hJ2
        have hM6 : M ≤ 6 := by have := HM.out; omega
        by_cases hat : a < M
        · have i2 : (a : Int) < (M : Int) := by omega
          have hpl : pre2.length < 64 := by
            have := congrArg List.length hev2
            rw [List.length_append] at this; omega
          obtain ⟨fn, tmps, assign, body, hy, hR⟩ := hY pre2 ((a : Int), (a : Int) + (s : Int)) _ ⟨a, a + s, by simp, by omega, by have := HM.out; omega⟩ hJ2 hpl
          have HR := Lib.hid hR
          have hwa : IntKind.i64.wrap ((a : Int) + (s : Int)) = (a : Int) + (s : Int) := IntWalk.i64_in _ (by omega)
          have hev3 : rngE N = (pre2 ++ [((a : Int), (a : Int) + (s : Int))]) ++ (rowE s (M - (a + 1)) (a + 1) ++ allE N (N - (s + 1)) (s + 1)) := by
            rw [hev2]
            obtain ⟨k, hk⟩ : ∃ k, M - a = k + 1 := ⟨M - a - 1, by omega⟩
            rw [hk, show M - (a + 1) = k by omega, List.append_assoc]
            rfl
          have HEV3 := Lib.hid hev3
          clear hR hY hev2 hJ2 hev3 hpl
          gi_wp2
          refine ⟨fun h => by simp [Fence.wide] at h, HR.out.mono ?_⟩
          rintro e W3 (⟨rfl, hJ3, hk3⟩ | ⟨rfl, hJx3⟩)
          · have hc3 : W3.cell? ⟨Bn, 0, none⟩ = some (.int .i64 N) := (World.cell?_of_block hk3).trans hcell2
            have HJ3 := Lib.hid hJ3
            clear hk3 hJ3
            gi_wp2
            go_roundw
            case rel => exact ⟨a + 1, _, by omega, by go_num, HEV3.out, HJ3.out, hc3⟩
            case measure => simp [intOf]; omega
          · have HJ3 := Lib.hid hJx3
            clear hJx3
            gi_wp2
            refine bodyPost_ret (results_none rfl _ _ _) rfl ?_
            exact ⟨⟨_, rfl⟩, .inr ⟨_, ⟨_, HEV3.out.symm⟩, HJ3.out⟩⟩
        · have e : a = M := by omega
          subst e
          have hev3 : rngE N = pre2 ++ allE N (N - (s + 1)) (s + 1) := by rw [hev2, Nat.sub_self]; rfl
          have HEV3 := Lib.hid hev3
          clear hY hev2 hJ2 hev3
          gi_wp2
          go_roundw
          case rel => exact ⟨s + 1, _, by omega, by go_num, HEV3.out, HJ2.out, hcell2⟩
          case measure => simp [intOf]; omega
    · have hE2 : rngE N = pre := by rw [hev, show N - s = 0 by omega]; simp [allE]
      have HE2 := Lib.hid hE2
      clear hE2 hev
      gi_wp2
      go_end0
      exact ⟨⟨_, rfl⟩, .inl ⟨pre, HE2.out.symm, hJ⟩⟩
theorem ranges_in (N : Nat) (w : World) : Calls Try.prog 40 #[.int .i64 N] w fun e w' => e = .returned (.func (.func 58) #[] #[.pointer (some ⟨w.heap.size, 0, none⟩)]) ∧ w' = w.alloc (.cells #[.int .i64 N] 3) := by
  go_enter Try.func40, Try.ntmps40
  go_wp2
  go_ret
  exact ⟨rfl, rfl⟩
/-- a range of zones -/
abbrev Rg (N : Nat) := {p : Nat × Nat // p.1 ≤ p.2 ∧ p.2 < N}
def Rg.out {N : Nat} (x : Rg N) : Int × Int := ((x.1.1 : Int), (x.1.2 : Int))
theorem ranges_stops (n : Nat) (Bn : Nat) (N : Nat) (hN : N ≤ 6) (w : World) (hBn : Bn < w.heap.size) (hc : w.cell? ⟨Bn, 0, none⟩ = some (.int .i64 N)) :
    SeqStopsK Fence.wide n Try.prog 58 #[.pointer (some ⟨Bn, 0, none⟩)] (fun x : Rg N => #[.int .i64 x.1.1, .int .i64 x.1.2]) (fun W W' => W'.heap[Bn]? = W.heap[Bn]?) (fun ys => ys.map Rg.out = rngE N) (fun pre => pre.map Rg.out <+: rngE N) 64 w := fun l J Jx W hW hJ _ hY h0 => by
  refine (ranges1_in n l Bn N hN (fun L W => ∃ l' : List (Rg N), l'.map Rg.out = L ∧ J l' W) (fun L W => ∃ l' : List (Rg N), l'.map Rg.out = L ∧ Jx l' W) ?_ W ((hW.cell (p := ⟨Bn, 0, none⟩) hBn).trans hc) ⟨[], rfl, h0⟩).mono ?_
  · rintro pre x W1 ⟨a, b, rfl, hab, hb⟩ ⟨l', rfl, hJ'⟩ hlen
    refine (hY l' ⟨(a, b), hab, hb⟩ W1 hJ' (by simpa using hlen)).mono ?_
    rintro e W2 (⟨h1, h2, h3⟩ | ⟨h1, h2⟩)
    · exact .inl ⟨h1, ⟨_, by simp [Rg.out], h2⟩, h3⟩
    · exact .inr ⟨h1, ⟨_, by simp [Rg.out], h2⟩⟩
  · rintro e W2 ⟨hv, (⟨ys, h1, ⟨l', h2, h3⟩⟩ | ⟨pre, h1, ⟨l', h2, h3⟩⟩)⟩
    · exact ⟨hv, .inl ⟨l', h2.trans h1, h3⟩⟩
    · exact ⟨hv, by subst h2; exact .inr ⟨l', h1, h3⟩⟩
end Fa
end Go.Proofs.Ytcppeligeodomaa
