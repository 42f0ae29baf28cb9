/- Days of work: is a day one; the next one. -/
import Derived.Test.YtjicpflgkhdppaaWorkOf
set_option linter.unusedSimpArgs false
set_option linter.unusedVariables false
namespace Go.Proofs.Ytjicpflgkhdppaa
open Go.RowKit
namespace Wk
open Dt
theorem gtr {a b c : World} {r : Option Nat} (h : a.grownBy b r) (k : b.grownBy c r) : a.grownBy c r :=
  ⟨k.os.trans h.os, k.tape.trans h.tape, k.output.trans h.output, Nat.le_trans h.size k.size, fun i hi hne => (k.block i (Nat.lt_of_lt_of_le hi h.size) hne).trans (h.block i hi hne)⟩
theorem bg {a b : World} {r : Option Nat} (h : Below a.heap.size a b) : a.grownBy b r := ⟨h.os, h.tape, h.output, h.size, fun i hi _ => h.block i hi⟩
theorem bbg {a b : World} {B M : Nat} (h : Below B a b) {c : World} (g : b.grownBy c (some M)) (hB : B ≤ a.heap.size) (hM : B ≤ M) : Below B a c := h.grown g (Nat.le_trans hB h.size) (fun k hk => by cases hk; exact hM)
structure Cal (rest : List Bool) (rules : List Rl) : Prop where
  len : rest.length = 7
  some_ : rest.all id = false
  ok : rulesE rules = 0
  many : rules.length ≤ 12
theorem cal_of {rest : List Bool} {rules : List Rl} (hr : rest.length = 7) (h : calE rest rules = 0) : Cal rest rules := by
  unfold calE at h
  by_cases c : rest.all id = true
  · rw [if_pos c] at h; omega
  · rw [if_neg c] at h
    by_cases c2 : 12 < rules.length
    · rw [if_pos c2] at h; omega
    · rw [if_neg c2] at h
      exact ⟨hr, by simpa using c, h, by omega⟩
def inB (n : Int) : Bool := decide (1 ≤ n ∧ n ≤ 3651693)
theorem in_any (n : Int) (w : World) : Calls Try.prog 45 #[.int .i64 n] w fun e w' => e = .returned (.bool (inB n)) ∧ w = w' := by
  have HB : RowKit.Hid (inB n = (decide (1 ≤ n) && decide (n ≤ 3651693))) := Lib.hid (by unfold inB; simp)
  by_cases h1 : 1 ≤ n
  · by_cases h2 : n ≤ 3651693
    · go_enter Try.func45, Try.ntmps45
      go_wp2
      go_ret
      exact ⟨by rw [HB.out]; simp [h1, h2], rfl⟩
    · go_enter Try.func45, Try.ntmps45
      go_wp2
      go_ret
      exact ⟨by rw [HB.out]; simp [h1, h2], rfl⟩
  · go_enter Try.func45, Try.ntmps45
    go_wp2
    go_ret
    exact ⟨by rw [HB.out, decide_eq_false (show ¬ 1 ≤ n by omega)]; rfl, rfl⟩
theorem idx2_0 (a b : Int) (w : World) : (Instr.index 95 (.agg #[.int .i64 a, .int .i64 b]) (.int .i64 0)).run Try.prog w = .ok (.int .i64 a) w := by kernel_rfl
theorem idx2_1 (a b : Int) (w : World) : (Instr.index 95 (.agg #[.int .i64 a, .int .i64 b]) (.int .i64 1)).run Try.prog w = .ok (.int .i64 b) w := by kernel_rfl
/-- what a method of the almanac leaves -/
def AlmQ (A M : Nat) (rest : List Bool) (v : Value) (rules : List Rl) (r : Value) (w : World) (e : Ending) (w' : World) : Prop := e = .returned r ∧ Alm w' A M rest v rules ∧ w.grownBy w' (some M)
theorem hol_has (rest : List Bool) (rules : List Rl) (y n : Int) : (hol rest rules y).contains n = (days rest rules y).contains n := by
  rw [Bool.eq_iff_iff]; simp [hol_mem]
set_option maxRecDepth 100000 in
set_option maxHeartbeats 4000000 in
theorem is_rest (A M : Nat) (rest : List Bool) (v : Value) (rules : List Rl) (hc : Cal rest rules) (n : Int) (h1 : 1 ≤ n) (h2 : n ≤ 3651693) (w : World) (h : Alm w A M rest v rules) (hq : isRest rest n = true) : Calls Try.prog 47 #[pA A, .int .i64 n] w (AlmQ A M rest v rules (.bool false) w) := by
  have C1 : RowKit.Hid (∀ w', Below w.heap.size w w' → Calls Try.prog 68 #[pA A, .int .i64 n] w' fun e w'' => e = .returned (.bool true) ∧ ∃ m, w'' = w'.drewN m) := Lib.hid (fun w' hb => by have := rest_any A M rest hc.len v rules n w' (h.next hb) h1 (by omega); rwa [hq] at this)
  have HH := Lib.hid h
  clear h hc hq
  go_enter Try.func47, Try.ntmps47
  go_wp2_with fail
  refine (C1.out _ (br _)).mono ?_
  rintro en w1 ⟨rfl, m, rfl⟩
  go_wp2
  go_ret
  exact ⟨rfl, HH.out.dr _, bg (bn (br _) _)⟩
set_option maxRecDepth 100000 in
set_option maxHeartbeats 4000000 in
theorem is_core (A M : Nat) (rest : List Bool) (v : Value) (rules : List Rl) (hc : Cal rest rules) (n Y m d : Int) (w : World) (h : Alm w A M rest v rules) (h1 : 1 ≤ Y) (h2 : Y ≤ 9999) (h3 : 1 ≤ n) (h4 : n ≤ 3651693)
    (C1 : RowKit.Hid (∀ w', Below w.heap.size w w' → Calls Try.prog 68 #[pA A, .int .i64 n] w' fun e w'' => e = .returned (.bool false) ∧ ∃ m, w'' = w'.drewN m))
    (C2 : RowKit.Hid (∀ w, Calls Try.prog 51 #[.int .i64 n] w fun e w' => e = .returned (.agg #[.int .i64 Y, .int .i64 m, .int .i64 d]) ∧ Below w.heap.size w w'))
    (b0 b1 : Bool) (H0 : RowKit.Hid (1 ≤ Y - 1 → (hol rest rules (Y - 1)).contains n = b0)) (H1 : RowKit.Hid ((hol rest rules Y).contains n = b1)) (H00 : ¬ 1 ≤ Y - 1 → b0 = false) :
    Calls Try.prog 47 #[pA A, .int .i64 n] w (AlmQ A M rest v rules (.bool (!b0 && !b1)) w) := by
  have CO : RowKit.Hid (∀ y w, 1 ≤ y → y ≤ 9999 → Alm w A M rest v rules → Calls Try.prog 37 #[pA A, .int .i64 y] w (OfAQ A M rest v rules (hol rest rules y) w)) := Lib.hid (fun y w g1 g2 g => of_any A M rest hc.len hc.some_ v rules hc.ok hc.many y g1 g2 w g)
  have HL : RowKit.Hid (∀ y, (hol rest rules y).length ≤ 1000) := Lib.hid (fun y => by have a := hol_len rest rules y; have b := hc.many; omega)
  have HI : RowKit.Hid (∀ y, (hol rest rules y).Pairwise (· ≤ ·)) := Lib.hid (fun y => (hol_inc rest rules y).imp (fun h => by omega))
  have fld := fun w => fld0 Y m d w
  have HH := Lib.hid h
  clear h hc
  go_enter Try.func47, Try.ntmps47
  go_wp2_with fail
  refine (C1.out _ (br _)).mono ?_
  rintro en w1 ⟨rfl, mm, rfl⟩
  go_wp2_with fail
  refine (C2.out _).mono ?_
  rintro en w2 ⟨rfl, b2⟩
  have HB2 := Lib.hid (bt (bn (br w) mm) b2)
  have HA2 := Lib.hid (HH.out.next HB2.out)
  clear b2 HH
  have i0 := fun w => idx2_0 (Y - 1) Y w
  have i1 := fun w => idx2_1 (Y - 1) Y w
  go_wp2
  refine wp_loop_rounds 3 ?_
  rw [rounds_succ]
  by_cases hY : 1 ≤ Y - 1
  · have HH0 := Lib.hid (H0.out hY)
    have hy1 : ¬ Y - 1 < 1 := by omega
    clear H0 H00
    go_wp2_with fail
    refine (CO.out (Y - 1) _ hY (by omega) HA2.out).mono ?_
    rintro en w3 ⟨u, rfl, hu3, ha3, hg3⟩
    have HG3 := Lib.hid (gtr (bg HB2.out) hg3)
    have HA3 := Lib.hid ha3
    have C4 := Lib.hid (srch_rd u _ n w3 hu3 (HL.out _) (HI.out _))
    rw [HH0.out] at C4
    clear hu3 ha3 hg3
    cases b0 with
    | true =>
      go_wp2_with fail
      refine C4.out.mono ?_
      rintro en w4 ⟨i4, rfl, b4⟩
      have HA4 := Lib.hid (HA3.out.next b4)
      have HG4 := Lib.hid (gtr HG3.out (bg b4))
      clear b4
      go_wp2
      go_ret
      exact ⟨by first | rfl | (simp; done), HA4.out, HG4.out⟩
    | false =>
      go_wp2_with fail
      refine C4.out.mono ?_
      rintro en w4 ⟨i4, rfl, b4⟩
      have HA4 := Lib.hid (HA3.out.next b4)
      have HG4 := Lib.hid (gtr HG3.out (bg b4))
      clear b4
      go_wp2
      rw [rounds_succ]
      have hy2 : ¬ Y < 1 := by omega
      go_wp2_with fail
      refine (CO.out Y _ h1 h2 HA4.out).mono ?_
      rintro en w5 ⟨u5, rfl, hu5, ha5, hg5⟩
      have HG5 := Lib.hid (gtr HG4.out hg5)
      have HA5 := Lib.hid ha5
      have C6 := Lib.hid (srch_rd u5 _ n w5 hu5 (HL.out _) (HI.out _))
      rw [H1.out] at C6
      clear hu5 ha5 hg5
      cases b1 with
      | true =>
        go_wp2_with fail
        refine C6.out.mono ?_
        rintro en w6 ⟨i6, rfl, b6⟩
        have HA6 := Lib.hid (HA5.out.next b6)
        have HG6 := Lib.hid (gtr HG5.out (bg b6))
        clear b6
        go_wp2
        go_ret
        exact ⟨by first | rfl | (simp; done), HA6.out, HG6.out⟩
      | false =>
        go_wp2_with fail
        refine C6.out.mono ?_
        rintro en w6 ⟨i6, rfl, b6⟩
        have HA6 := Lib.hid (HA5.out.next b6)
        have HG6 := Lib.hid (gtr HG5.out (bg b6))
        clear b6
        go_wp2
        rw [rounds_succ]
        go_wp2
        go_ret
        exact ⟨by first | rfl | (simp; done), HA6.out, HG6.out⟩
  · have hb0 := H00 (by omega)
    subst hb0
    have hy1 : Y - 1 < 1 := by omega
    clear H0 H00
    go_wp2
    rw [rounds_succ]
    have hy2 : ¬ Y < 1 := by omega
    go_wp2_with fail
    refine (CO.out Y _ h1 h2 HA2.out).mono ?_
    rintro en w5 ⟨u5, rfl, hu5, ha5, hg5⟩
    have HG5 := Lib.hid (gtr (bg HB2.out) hg5)
    have HA5 := Lib.hid ha5
    have C6 := Lib.hid (srch_rd u5 _ n w5 hu5 (HL.out _) (HI.out _))
    rw [H1.out] at C6
    clear hu5 ha5 hg5
    cases b1 with
    | true =>
      go_wp2_with fail
      refine C6.out.mono ?_
      rintro en w6 ⟨i6, rfl, b6⟩
      have HA6 := Lib.hid (HA5.out.next b6)
      have HG6 := Lib.hid (gtr HG5.out (bg b6))
      clear b6
      go_wp2
      go_ret
      exact ⟨by first | rfl | (simp; done), HA6.out, HG6.out⟩
    | false =>
      go_wp2_with fail
      refine C6.out.mono ?_
      rintro en w6 ⟨i6, rfl, b6⟩
      have HA6 := Lib.hid (HA5.out.next b6)
      have HG6 := Lib.hid (gtr HG5.out (bg b6))
      clear b6
      go_wp2
      rw [rounds_succ]
      go_wp2
      go_ret
      exact ⟨by first | rfl | (simp; done), HA6.out, HG6.out⟩
theorem is_any (A M : Nat) (rest : List Bool) (v : Value) (rules : List Rl) (hc : Cal rest rules) (n : Int) (h1 : 1 ≤ n) (h2 : n ≤ 3651693) (w : World) (h : Alm w A M rest v rules) : Calls Try.prog 47 #[pA A, .int .i64 n] w (AlmQ A M rest v rules (.bool (isW rest rules n)) w) := by
  by_cases hq : isRest rest n = true
  · have e : isW rest rules n = false := by unfold isW; rw [hq]; rfl
    rw [e]
    exact is_rest A M rest v rules hc n h1 h2 w h hq
  · have hq' : isRest rest n = false := by simpa using hq
    obtain ⟨y1, y2, _, _⟩ := yearOf_bd n h1 (by omega)
    have hx : aD (dateOf n) = .agg #[.int .i64 (yearOf n), .int .i64 (dateOf n).2.1, .int .i64 (dateOf n).2.2] := rfl
    have e : isW rest rules n = (!isHol rest rules (yearOf n - 1) n && !isHol rest rules (yearOf n) n) := by
      unfold isW; rw [hq']; cases isHol rest rules (yearOf n - 1) n <;> cases isHol rest rules (yearOf n) n <;> rfl
    rw [e]
    refine is_core A M rest v rules hc n (yearOf n) (dateOf n).2.1 (dateOf n).2.2 w h y1 y2 h1 h2 (Lib.hid fun w' hb => ?_) (Lib.hid fun w => ?_) _ _ (Lib.hid fun hy => ?_) (Lib.hid ?_) (fun hy => ?_)
    · have := rest_any A M rest hc.len v rules n w' (h.next hb) h1 (by omega)
      rwa [hq'] at this
    · have := rawOf_any n w h1 (by omega)
      unfold RawOfQ at this
      rwa [hx] at this
    · rw [hol_has]; unfold isHol; rw [decide_eq_true hy]; rfl
    · rw [hol_has]; unfold isHol; rw [decide_eq_true y1]; rfl
    · unfold isHol; rw [decide_eq_false hy]; rfl
end Wk
end Go.Proofs.Ytjicpflgkhdppaa
