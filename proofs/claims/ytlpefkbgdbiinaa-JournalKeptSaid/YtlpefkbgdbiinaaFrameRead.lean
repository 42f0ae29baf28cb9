/- Frames are read: a range over a function. -/
import Derived.Test.YtlpefkbgdbiinaaFramePlain2
import Derived.Test.YtlpefkbgdbiinaaFrameRef2
import Derived.RangeFuncNested
import Derived.RangeFuncBound
import Derived.RangeFuncCalls
import Derived.RangeFuncLeaves
import Derived.RangeFuncBox
import Derived.Shelf.Abstract
import Derived.Shelf.RegionOpen
import Derived.WalkKit
import Derived.OwnWalkIn
import Derived.TacticsInMore
import Derived.LoopNIn
import Derived.LoopIn
import Derived.Maps.AppendAt
set_option linter.unusedVariables false
namespace Go.Proofs.Ytlpefkbgdbiinaa
open Go.RowKit Go.Shelf
attribute [local go_sem] Oper.semAt_some
namespace Fr
/-- what the iterator hands on: where a frame ends, its text -/
def evs : Nat → Nat → Bs → List (Int × Bs)
  | 0, _, _ => []
  | k + 1, p, s => if p + 2 ≤ s.size ∧ num2 (s.extract p s.size) ≤ 400 ∧ p + 2 + num2 (s.extract p s.size) ≤ s.size then (((p + 2 + num2 (s.extract p s.size) : Nat) : Int), s.extract (p + 2) (p + 2 + num2 (s.extract p s.size))) :: evs k (p + 2 + num2 (s.extract p s.size)) s else []
theorem evs_none (k p : Nat) (s : Bs) (h : ¬ (p + 2 ≤ s.size ∧ num2 (s.extract p s.size) ≤ 400 ∧ p + 2 + num2 (s.extract p s.size) ≤ s.size)) : evs k p s = [] := by
  cases k with
  | zero => rfl
  | succ k => unfold evs; rw [if_neg h]
theorem evs_some (k p : Nat) (s : Bs) (h1 : p + 2 ≤ s.size) (h2 : num2 (s.extract p s.size) ≤ 400) (h3 : p + 2 + num2 (s.extract p s.size) ≤ s.size) : evs (k + 1) p s = (((p + 2 + num2 (s.extract p s.size) : Nat) : Int), s.extract (p + 2) (p + 2 + num2 (s.extract p s.size))) :: evs k (p + 2 + num2 (s.extract p s.size)) s := by
  show (if _ then _ else _) = _
  rw [if_pos ⟨h1, h2, h3⟩]
theorem idx_str (s : Bs) (x : Int) (i : Nat) (hx : x = (i : Int)) (hi : i < s.size) (w : World) : (Instr.index 9 (.string s) (.int .i64 x)).run Try.prog w = .ok (.int .u8 ((s[i]'hi).toNat : Int)) w := by
  subst hx
  rw [run_index_string w _ _ _ _ Try.underlying9, dif_pos ⟨by omega, by omega⟩]
  simp
/-- the two bytes at a place -/
theorem num2_at (s : Bs) (p : Nat) (h : p + 2 ≤ s.size) : num2 (s.extract p s.size) = (s[p]'(by omega)).toNat * 256 + (s[p + 1]'(by omega)).toNat := by
  have hl : s.data.toList.length = s.size := rfl
  have e : (s.extract p s.size).data.toList = s[p]'(by omega) :: s[p + 1]'(by omega) :: s.data.toList.drop (p + 2) := by
    rw [ext_list, List.take_of_length_le (by rw [List.length_drop]; omega)]
    rw [List.drop_eq_getElem_cons (by omega : p < s.data.toList.length), List.drop_eq_getElem_cons (by omega : p + 1 < s.data.toList.length)]
    rfl
  exact num2_cons _ _ _ _ e
set_option maxRecDepth 100000 in
set_option maxHeartbeats 2000000 in
theorem whole1_in (n : Nat) (l Bn : Nat) (s : Bs) (hs : s.size ≤ 1000000000000000) (J Jx : List (Int × Bs) → World → Prop)
    (hY : ∀ pre x W, J pre W → pre.length < 64 → YieldAt Fence.wide (n - 1) Try.prog l #[.int .i64 x.1, .string x.2] W fun e W' =>
      (e = .returned (.bool true) ∧ J (pre ++ [x]) W' ∧ W'.heap[Bn]? = W.heap[Bn]?) ∨ (e = .returned (.bool false) ∧ Jx (pre ++ [x]) W'))
    (W : World) (hBn : W.cell? ⟨Bn, 0, none⟩ = some (.string s)) (h0 : J [] W) (hJd : ∀ pre W n, J pre W → J pre (W.drewN n)) :
    CallsIn Fence.wide n Try.prog 38 #[.func (.yield l) #[] #[], .pointer (some ⟨Bn, 0, none⟩)] W fun e W' => (∃ v, e = .returned v) ∧
      ((∃ ys, ys = evs 64 0 s ∧ J ys W') ∨ (∃ pre, pre <+: evs 64 0 s ∧ Jx pre W')) := by
  refine callsIn_of_wp Try.func38 rfl trivial ?_ rfl
  simp only [Try.ntmps38, List.size_toArray, List.length_cons, List.length_nil, Nat.reduceAdd, Nat.reduceSub, Array.replicate_succ, Array.replicate_zero, List.push_toArray, List.append_toArray, List.nil_append, List.cons_append]
  gi_wp2
  gi_loopw [3, 5] (fun p i wr => ∃ (k a : Nat) (pre : List (Int × Bs)), k ≤ 64 ∧ i = .int .i64 k ∧ p = .int .i64 a ∧ a ≤ s.size ∧ pre.length = k ∧ evs 64 0 s = pre ++ evs (64 - k) a s ∧ J pre wr ∧ wr.cell? ⟨Bn, 0, none⟩ = some (.string s))
    (fun _ i _ => 64 - (intOf i).toNat)
  case atStart => exact ⟨0, 0, [], by omega, rfl, rfl, by omega, rfl, rfl, h0, hBn⟩
  case round =>
    obtain ⟨k, a, pre, hk, rfl, rfl, ha, hpl, hev, hJ, hcell⟩ := hrel
    by_cases hlt : k < 64
    · have HEV := Lib.hid hev
      have HJ := Lib.hid hJ
      have HPL := Lib.hid hpl
      clear hev hJ hpl
      by_cases h2 : a + 2 ≤ s.size
      · have hn2 := num2_at s a h2
        have hA := (s[a]'(by omega)).toNat_lt
        have hB := (s[a + 1]'(by omega)).toNat_lt
        have ix1 := fun w => idx_str s (a : Int) a rfl (by omega) w
        have ix2 := fun w => idx_str s ((a : Int) + 1) (a + 1) (by omega) (by omega) w
        obtain ⟨A, hA'⟩ : ∃ A : Nat, (s[a]'(by omega)).toNat = A := ⟨_, rfl⟩
        obtain ⟨B, hB'⟩ : ∃ B : Nat, (s[a + 1]'(by omega)).toNat = B := ⟨_, rfl⟩
        rw [hA'] at hA hn2
        rw [hB'] at hB hn2
        simp only [hA'] at ix1
        simp only [hB'] at ix2
        clear hA' hB'
        have sb : ¬ (s.size : Int) - (a : Int) < 2 := by omega
        by_cases h4 : A * 256 + B ≤ 400
        · by_cases h5 : a + 2 + (A * 256 + B) ≤ s.size
          · have hE := evs_some (63 - k) a s h2 (by omega) (by omega)
            rw [hn2, show 63 - k + 1 = 64 - k by omega] at hE
            have HE := Lib.hid hE
            clear hE hn2
            gi_wp2
            refine wpIn_wide.2 ?_
            go_quiet (fail)
            obtain ⟨X, hX⟩ : ∃ X, s.extract (a + 2) (a + 2 + (A * 256 + B)) = X := ⟨_, rfl⟩
            have hsl : ∀ w, (Instr.slice 9 (.string s) (some (.int .i64 ((a : Int) + 2))) (some (.int .i64 ((a : Int) + 2 + (A : Int) * 256 + (B : Int)))) none).run Try.prog w = .ok (.string X) w := fun w => by
              have := run_slice_string (P := Try.prog) (w := w) 9 s .i64 .i64 ((a : Int) + 2) ((a : Int) + 2 + (A : Int) * 256 + (B : Int)) Try.underlying9 (by omega) (by omega) (by omega)
              rw [this, ← hX]
              have e1 : ((a : Int) + 2).toNat = a + 2 := by omega
              have e2 : ((a : Int) + 2 + (A : Int) * 256 + (B : Int)).toNat = a + 2 + (A * 256 + B) := by omega
              rw [e1, e2]
            obtain ⟨fn, tmps, assign, body, hy, hR⟩ := hY pre ((a : Int) + 2 + (A : Int) * 256 + (B : Int), X) _ (hJd _ _ nq HJ.out) (by have := HPL.out; omega)
            have HX := Lib.hid hX
            have HR := Lib.hid hR
            have g1 : ¬ (400 : Int) < (a : Int) + 2 + (A : Int) * 256 + (B : Int) - ((a : Int) + 2) := by omega
            have g2 : ¬ (s.size : Int) < (a : Int) + 2 + (A : Int) * 256 + (B : Int) := by omega
            have hev2 : evs 64 0 s = (pre ++ [((a : Int) + 2 + (A : Int) * 256 + (B : Int), X)]) ++ evs (64 - (k + 1)) (a + 2 + (A * 256 + B)) s := by
              rw [HEV.out, HE.out, hX, List.append_assoc, show 64 - (k + 1) = 63 - k by omega, show (((a + 2 + (A * 256 + B) : Nat)) : Int) = (a : Int) + 2 + (A : Int) * 256 + (B : Int) by omega]
              rfl
            have HEV2 := Lib.hid hev2
            clear hX hR hY hev2
            gi_wp2
            refine ⟨fun h => by simp [Fence.wide] at h, HR.out.mono ?_⟩
            rintro e W3 (⟨rfl, hJ3, hk3⟩ | ⟨rfl, hJx3⟩)
            · have hc3 : W3.cell? ⟨Bn, 0, none⟩ = some (.string s) := (World.cell?_of_block hk3).trans hcell
              have HJ3 := Lib.hid hJ3
              clear hk3 hJ3
              gi_wp2
              go_roundw
              case rel => exact ⟨k + 1, a + 2 + (A * 256 + B), _, by omega, by go_num, by first | go_num | (congr 1; omega), h5, by rw [List.length_append, HPL.out]; rfl, HEV2.out, HJ3.out, hc3⟩
              case measure => simp [intOf]; omega
            · have HJ3 := Lib.hid hJx3
              clear hJx3
              gi_wp2
              refine bodyPost_ret (results_none rfl _ _ _) rfl ?_
              exact ⟨⟨_, rfl⟩, .inr ⟨_, ⟨_, HEV2.out.symm⟩, HJ3.out⟩⟩
          · have hE := evs_none (64 - k) a s (by omega)
            have hE2 := HEV.out
            rw [hE, List.append_nil] at hE2
            have HE2 := Lib.hid hE2
            have g1 : ¬ (400 : Int) < (a : Int) + 2 + (A : Int) * 256 + (B : Int) - ((a : Int) + 2) := by omega
            have g2 : (s.size : Int) < (a : Int) + 2 + (A : Int) * 256 + (B : Int) := by omega
            clear hE hE2 hn2 hY
            gi_wp2
            refine wpIn_wide.2 ?_
            go_quiet (fail)
            gi_wp2
            refine ⟨fun _ h => (by cases h), ?_⟩
            gi_wp2
            refine bodyPost_ret (results_none rfl _ _ _) rfl ?_
            exact ⟨⟨_, rfl⟩, .inl ⟨pre, HE2.out.symm, hJd _ _ _ HJ.out⟩⟩
        · have hE := evs_none (64 - k) a s (by omega)
          have hE2 := HEV.out
          rw [hE, List.append_nil] at hE2
          have HE2 := Lib.hid hE2
          have g1 : (400 : Int) < (a : Int) + 2 + (A : Int) * 256 + (B : Int) - ((a : Int) + 2) := by omega
          clear hE hE2 hn2 hY
          gi_wp2
          refine wpIn_wide.2 ?_
          go_quiet (fail)
          gi_wp2
          refine ⟨fun _ h => (by cases h), ?_⟩
          gi_wp2
          refine bodyPost_ret (results_none rfl _ _ _) rfl ?_
          exact ⟨⟨_, rfl⟩, .inl ⟨pre, HE2.out.symm, hJd _ _ _ HJ.out⟩⟩
      · have hE := evs_none (64 - k) a s (by omega)
        have hE2 := HEV.out
        rw [hE, List.append_nil] at hE2
        have HE2 := Lib.hid hE2
        clear hE hE2
        have sb : (s.size : Int) - (a : Int) < 2 := by omega
        gi_wp2
        refine bodyPost_ret (results_none rfl _ _ _) rfl ?_
        exact ⟨⟨_, rfl⟩, .inl ⟨pre, HE2.out.symm, HJ.out⟩⟩
    · have hE2 : evs 64 0 s = pre := by rw [hev, show 64 - k = 0 by omega]; simp [evs]
      have HE2 := Lib.hid hE2
      clear hE2 hev
      gi_wp2
      go_end0
      exact ⟨⟨_, rfl⟩, .inl ⟨pre, HE2.out.symm, hJ⟩⟩
theorem whole_in (s : Bs) (w : World) : Calls Try.prog 30 #[.string s] w fun e w' => e = .returned (.func (.func 38) #[] #[.pointer (some ⟨w.heap.size, 0, none⟩)]) ∧ w' = w.alloc (.cells #[.string s] 9) := by
  go_enter Try.func30, Try.ntmps30
  go_wp2
  go_ret
  exact ⟨rfl, rfl⟩
theorem whole_stops (n : Nat) (Bn : Nat) (s : Bs) (hs : s.size ≤ 1000000000000000) (w : World) (hBn : Bn < w.heap.size) (hc : w.cell? ⟨Bn, 0, none⟩ = some (.string s)) :
    SeqStopsK Fence.wide n Try.prog 38 #[.pointer (some ⟨Bn, 0, none⟩)] (fun x : Int × Bs => #[.int .i64 x.1, .string x.2]) (fun W W' => W'.heap[Bn]? = W.heap[Bn]?) (fun ys => ys = evs 64 0 s) (fun pre => pre <+: evs 64 0 s) 64 w := fun l J Jx W hW hJ _ hY h0 =>
  whole1_in n l Bn s hs J Jx hY W ((hW.cell (p := ⟨Bn, 0, none⟩) hBn).trans hc) h0 (fun pre W1 m h => hJ pre W1 _ none h ⟨rfl, rfl, rfl, Nat.le_refl _, fun _ _ _ => rfl⟩ (fun r e => by cases e))
end Fr
end Go.Proofs.Ytlpefkbgdbiinaa
