/- Package refund. -/
import Derived.Test.YtogohocokmhjcaaCoverBest
import Derived.LoopN
set_option linter.unusedVariables false
namespace Go.Proofs.Ytogohocokmhjcaa
open Go.RowKit
namespace Cv
def offersL : List Offer := [(1, 500), (7, 2000), (30, 6000)]
def OffQ (w : World) (e : Ending) (w' : World) : Prop := ∃ v, e = .returned v ∧ Rd 2 eO w' v offersL ∧ Below w.heap.size w w'
theorem offers_any (w : World) : Calls Try.prog 32 #[] w (OffQ w) := by
  go_enter Try.func32, Try.ntmps32
  go_wp2
  go_ret
  refine ⟨_, rfl, ⟨_, _, rfl, Nat.le_refl _, by show 3 ≤ maxLen; decide, fun _ => ⟨w.heap.size, 0, rfl, by simp, ?_⟩⟩, (br w).alloc (Nat.le_refl _) _⟩
  intro i hi j u hu
  rw [World.cell?_alloc_mark]
  have hi3 : i < 3 := hi
  rcases (show i = 0 ∨ i = 1 ∨ i = 2 by omega) with rfl | rfl | rfl
  all_goals
    rcases (show j = 0 ∨ j = 1 ∨ 2 ≤ j by omega) with rfl | rfl | h2
    · simpa [offersL, eO] using hu
    · simpa [offersL, eO] using hu
    · rw [List.getElem?_eq_none (by simpa [eO] using h2)] at hu; cases hu
theorem worth_any (v : Value) (xs : List Offer) (d : Int) (w : World) (h : Rd 2 eO w v xs) : Calls Try.prog 13 #[v, .int .i64 d] w (BestQ xs d w) := by
  have H := Lib.hid h
  obtain ⟨a, cap, rfl, h1, h2, h3⟩ := h
  clear h3
  go_enter Try.func13, Try.ntmps13
  go_wp2_with fail
  refine (best_any _ xs d _ H.out).mono ?_
  rintro en w1 ⟨rfl, hb1⟩
  go_wp2
  go_ret2
  exact ⟨rfl, hb1⟩
def okP (p : Int) : Prop := 0 ≤ p ∧ p ≤ 1099511627776
instance (p : Int) : Decidable (okP p) := by unfold okP; exact inferInstance
def refF (paid : Int) (l : List Offer) (used fee : Int) : Int × Int :=
  if ¬ (okP paid ∧ okP fee) then (0, 3) else if (bestF l used).2 ≠ 0 then (0, (bestF l used).2) else (if 0 < paid - (bestF l used).1 - fee then paid - (bestF l used).1 - fee else 0, 0)
def RefQ (paid : Int) (l : List Offer) (used fee : Int) (w : World) (e : Ending) (w' : World) : Prop := e = .returned (.tuple #[.int .i64 (refF paid l used fee).1, .int .i64 (refF paid l used fee).2]) ∧ Below w.heap.size w w'
theorem bestF_bd (l : List Offer) (d : Int) : 0 ≤ (bestF l d).1 ∧ (bestF l d).1 ≤ 400000000 := by
  unfold bestF
  by_cases h : readyF l d = 0
  · rw [if_neg (fun x => x h)]
    obtain ⟨hc, n, rfl, hn⟩ := ready_ok h
    have := best_bd (check_ok hc).2 n
    simp; omega
  · rw [if_pos h]; simp
theorem two0 (a b : Int) (w : World) : (Instr.index 49 (.agg #[.int .i64 a, .int .i64 b]) (.int .i64 0)).run Try.prog w = .ok (.int .i64 a) w := by kernel_rfl
theorem two1 (a b : Int) (w : World) : (Instr.index 49 (.agg #[.int .i64 a, .int .i64 b]) (.int .i64 1)).run Try.prog w = .ok (.int .i64 b) w := by kernel_rfl
set_option maxHeartbeats 1000000 in
theorem of_any (paid : Int) (v : Value) (xs : List Offer) (d fee : Int) (w : World) (h : Rd 2 eO w v xs) : Calls Try.prog 14 #[.int .i64 paid, v, .int .i64 d, .int .i64 fee] w (RefQ paid xs d fee w) := by
  have H := Lib.hid h
  obtain ⟨a, cap, rfl, h1, h2, h3⟩ := h
  clear h3
  have t0 := two0 paid fee
  have t1 := two1 paid fee
  by_cases hp : okP paid ∧ okP fee
  · obtain ⟨⟨p0, p1⟩, f0, f1⟩ := hp
    have hb := bestF_bd xs d
    by_cases he : (bestF xs d).2 = 0
    · have hf : refF paid xs d fee = (if 0 < paid - (bestF xs d).1 - fee then paid - (bestF xs d).1 - fee else 0, 0) := by
        unfold refF; rw [if_neg (fun x => x ⟨⟨p0, p1⟩, f0, f1⟩), if_neg (fun x => x he)]
      have hE : bestF xs d = ((bestF xs d).1, 0) := by rw [← he]
      generalize (bestF xs d).1 = B at *
      have Hf := Lib.hid hf; have HE := Lib.hid hE
      clear hf hE he
      go_enter Try.func14, Try.ntmps14
      go_wp2
      refine wp_loop_rounds 3 ?_
      rw [rounds_succ]
      go_wp2
      rw [rounds_succ]
      go_wp2
      rw [rounds_succ]
      go_wp2_with fail
      refine (worth_any _ xs d _ H.out).mono ?_
      rintro en w1 ⟨rfl, hb1⟩
      rw [HE.out]
      go_wp2
      all_goals
        go_ret2
        exact ⟨by rw [Hf.out]; first | rfl | (simp; done) | (simp; omega), hb1⟩
    · have hf : refF paid xs d fee = (0, (bestF xs d).2) := by
        unfold refF; rw [if_neg (fun x => x ⟨⟨p0, p1⟩, f0, f1⟩), if_pos he]
      have hE : bestF xs d = ((bestF xs d).1, (bestF xs d).2) := rfl
      have hne : ((bestF xs d).2 != 0) = true := by simp [he]
      generalize (bestF xs d).1 = B at *
      generalize (bestF xs d).2 = C at *
      have Hf := Lib.hid hf; have HE := Lib.hid hE
      clear hf hE he
      go_enter Try.func14, Try.ntmps14
      go_wp2
      refine wp_loop_rounds 3 ?_
      rw [rounds_succ]
      go_wp2
      rw [rounds_succ]
      go_wp2
      rw [rounds_succ]
      go_wp2_with fail
      refine (worth_any _ xs d _ H.out).mono ?_
      rintro en w1 ⟨rfl, hb1⟩
      rw [HE.out]
      go_wp2
      go_ret2
      exact ⟨by rw [Hf.out]; rfl, hb1⟩
  · have hf : refF paid xs d fee = (0, 3) := by unfold refF; rw [if_pos hp]
    have Hf := Lib.hid hf; clear hf
    rcases (show paid < 0 ∨ (0 ≤ paid ∧ 1099511627776 < paid) ∨ (0 ≤ paid ∧ paid ≤ 1099511627776 ∧ fee < 0) ∨ (0 ≤ paid ∧ paid ≤ 1099511627776 ∧ 0 ≤ fee ∧ 1099511627776 < fee) by unfold okP at hp; omega) with g1 | ⟨g1, g2⟩ | ⟨g1, g2, g3⟩ | ⟨g1, g2, g3, g4⟩
    · clear hp
      go_enter Try.func14, Try.ntmps14
      go_wp2
      refine wp_loop_rounds 3 ?_
      rw [rounds_succ]
      go_wp2
      go_ret2
      exact ⟨by rw [Hf.out]; rfl, br _⟩
    · clear hp
      go_enter Try.func14, Try.ntmps14
      go_wp2
      refine wp_loop_rounds 3 ?_
      rw [rounds_succ]
      go_wp2
      go_ret2
      exact ⟨by rw [Hf.out]; rfl, br _⟩
    all_goals
      clear hp
      go_enter Try.func14, Try.ntmps14
      go_wp2
      refine wp_loop_rounds 3 ?_
      rw [rounds_succ]
      go_wp2
      rw [rounds_succ]
      go_wp2
      go_ret2
      exact ⟨by rw [Hf.out]; rfl, br _⟩
end Cv
end Go.Proofs.Ytogohocokmhjcaa
