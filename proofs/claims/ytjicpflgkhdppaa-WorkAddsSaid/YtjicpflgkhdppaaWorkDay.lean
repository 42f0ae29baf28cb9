/- Days of work: a rule's day in a year. -/
import Derived.Test.YtjicpflgkhdppaaWorkAlm
set_option linter.unusedSimpArgs false
set_option linter.unusedVariables false
namespace Go.Proofs.Ytjicpflgkhdppaa
open Go.RowKit
namespace Wk
open Dt
theorem free_ok (rest : List Bool) (hr : rest.length = 7) (hf : rest.all id = false) (n : Int) : ∃ k : Nat, k < 7 ∧ free rest n 7 = n + k ∧ isRest rest (n + k) = false ∧ ∀ j : Nat, j < k → isRest rest (n + j) = true := by
  have hex : ∃ k : Nat, k < 7 ∧ isRest rest (n + k) = false := by
    have : ∃ i, ∃ h : i < rest.length, rest[i] = false := by
      rw [Bool.eq_false_iff] at hf
      have h2 : ¬ ∀ x ∈ rest, id x = true := fun h => hf (List.all_eq_true.2 h)
      have : ∃ x, x ∈ rest ∧ x = false := Classical.byContradiction fun hn => h2 fun x hx => by
        cases hxx : x
        · exact absurd ⟨x, hx, hxx⟩ hn
        · rfl
      obtain ⟨x, hx, h3⟩ := this
      obtain ⟨i, hi, e⟩ := List.getElem_of_mem hx
      exact ⟨i, hi, by rw [e, h3]⟩
    obtain ⟨i, hi, hv⟩ := this
    refine ⟨(((i : Int) - (n - 1)) % 7).toNat, by omega, ?_⟩
    unfold isRest
    have hw : (wd (n + (((i : Int) - (n - 1)) % 7).toNat) - 1).toNat = i := by
      unfold wd; omega
    rw [hw, List.getD_eq_getElem?_getD, List.getElem?_eq_getElem hi]; simpa using hv
  have gen : ∀ (f : Nat) (a : Int), (∃ k : Nat, k < f ∧ isRest rest (a + k) = false) → ∃ k : Nat, k < f ∧ free rest a f = a + k ∧ isRest rest (a + k) = false ∧ ∀ j : Nat, j < k → isRest rest (a + j) = true := by
    intro f
    induction f with
    | zero => rintro a ⟨k, hk, _⟩; omega
    | succ f ih =>
      rintro a ⟨k, hk, hkr⟩
      by_cases h0 : isRest rest a = true
      · have hk0 : k ≠ 0 := by
          intro e; subst e
          simp [h0] at hkr
        obtain ⟨k', h1, h2, h3, h4⟩ := ih (a + 1) ⟨k - 1, by omega, by rw [show a + 1 + ((k - 1 : Nat) : Int) = a + k by omega]; exact hkr⟩
        refine ⟨k' + 1, by omega, ?_, ?_, ?_⟩
        · show (if isRest rest a = true then free rest (a + 1) f else a) = _
          rw [if_pos h0, h2]; omega
        · rw [show a + ((k' + 1 : Nat) : Int) = a + 1 + k' by omega]; exact h3
        · intro j hj
          by_cases e : j = 0
          · subst e; simpa using h0
          · have := h4 (j - 1) (by omega)
            rw [show a + 1 + ((j - 1 : Nat) : Int) = a + j by omega] at this
            exact this
      · refine ⟨0, by omega, ?_, by simpa using h0, fun j hj => by omega⟩
        show (if isRest rest a = true then free rest (a + 1) f else a) = _
        rw [if_neg h0]; simp
  exact gen 7 n hex
/-- what the code hands back -/
def dayF (rest : List Bool) (r : Rl) (y : Int) : Int × Bool := match ruleD rest r y with | some n => (n, true) | none => (0, false)
def DayR (rest : List Bool) (r : Rl) (y : Int) (w : World) (e : Ending) (w' : World) : Prop := e = .returned (.tuple #[.int .i64 (dayF rest r y).1, .bool (dayF rest r y).2]) ∧ Below w.heap.size w w'
theorem len0_2001 {m d : Int} (h1 : 1 ≤ d) (h2 : d ≤ len0 2001 m) : 1 ≤ m ∧ m ≤ 12 ∧ d ≤ 31 ∧ d ≤ len 2001 m := by
  unfold len0 at h2
  split at h2
  · rename_i h
    have := len_bd 2001 m h.2.2.1 h.2.2.2
    exact ⟨h.2.2.1, h.2.2.2, by omega, h2⟩
  · omega
theorem len_2001 (y m : Int) (h1 : 1 ≤ m) (h2 : m ≤ 12) : len 2001 m ≤ len y m := by
  have a := len_vals 2001
  have b := len_vals y
  have c := lp_01 y
  have d : lp 2001 = 0 := by decide
  rcases month_cases h1 h2 with rfl | rfl | rfl | rfl | rfl | rfl | rfl | rfl | rfl | rfl | rfl | rfl <;> omega
set_option maxRecDepth 100000 in
set_option maxHeartbeats 2000000 in
theorem day_1 (A M : Nat) (rest : List Bool) (hr : rest.length = 7) (hf : rest.all id = false) (v : Value) (rules : List Rl) (m d x y : Int) (hE : ruleE (1, m, d, x) = 0) (w : World) (h : Alm w A M rest v rules) (h1 : 1 ≤ y) (h2 : y ≤ 9999) :
    Calls Try.prog 60 #[pA A, rV 1 m d x, .int .i64 y] w (DayR rest (1, m, d, x) y w) := by
  have hd : 1 ≤ d ∧ d ≤ len0 2001 m ∧ x = 0 := by
    unfold ruleE at hE
    simp only at hE
    rw [if_pos trivial] at hE
    by_cases c : d < 1 ∨ len0 2001 m < d
    · rw [if_pos c] at hE; omega
    · rw [if_neg c] at hE
      refine ⟨by omega, by omega, ?_⟩
      by_cases c2 : x = 0
      · exact c2
      · rw [if_pos c2] at hE; omega
  obtain ⟨d1, d2, rfl⟩ := hd
  obtain ⟨m1, m2, d3, d4⟩ := len0_2001 d1 d2
  have hv : Valid y m d := ⟨h1, h2, m1, m2, d1, Int.le_trans d4 (len_2001 y m m1 m2)⟩
  have hb := raw_bd hv
  obtain ⟨k0, f1, f2, f3, f4⟩ := free_ok rest hr hf (raw y m d)
  have HR : RowKit.Hid (dayF rest (1, m, d, 0) y = (raw y m d + k0, true)) := Lib.hid (by unfold dayF ruleD; simp only; rw [if_pos trivial, f2])
  have CR : RowKit.Hid (∀ w, Calls Try.prog 66 #[.agg #[.int .i64 y, .int .i64 m, .int .i64 d]] w (rawQ y m d w)) := Lib.hid (fun w => raw_any y m d w h1 (by omega) m1 m2 (by omega) (by omega))
  have CA : RowKit.Hid (∀ n w', Below w.heap.size w w' → 1 ≤ n → n ≤ 1000000000 → Calls Try.prog 68 #[pA A, .int .i64 n] w' fun e w'' => e = .returned (.bool (isRest rest n)) ∧ ∃ m, w'' = w'.drewN m) := Lib.hid (fun n w' hb g1 g2 => rest_any A M rest hr v rules n w' (h.next hb) g1 g2)
  have F3 := Lib.hid f3; have F4 := Lib.hid f4
  have HB0 := Lib.hid ((br w).alloc (Nat.le_refl _) (.cells #[.int .i64 1, .int .i64 m, .int .i64 d, .int .i64 0] 72))
  unfold DayR
  rw [HR.out]
  unfold rawQ at CR
  obtain ⟨N, hN⟩ : ∃ N, raw y m d = N := ⟨_, rfl⟩
  rw [hN] at hb F3 F4 CR
  rw [hN]
  clear HR hE hf f2 f3 f4 hN hv d2 d4 h
  go_enter Try.func60, Try.ntmps60
  go_wp2_with fail
  refine (CR.out _).mono ?_
  rintro en w1 ⟨rfl, b1⟩
  have HB1 := Lib.hid (bt HB0.out b1)
  clear b1 HB0
  go_wp2
  go_loopw [8] (fun i wr => ∃ k : Nat, k ≤ k0 ∧ i = .int .i64 (N + k) ∧ Below w.heap.size w wr) (fun i _ => (N + k0 - intOf i).toNat)
  case atStart => exact ⟨0, Nat.zero_le _, by simp, HB1.out⟩
  case round =>
    obtain ⟨k, hk, rfl, hbw⟩ := hrel
    have HBW := Lib.hid hbw
    clear hbw HB1
    obtain ⟨T, hT⟩ : ∃ T, N + (k : Int) = T := ⟨_, rfl⟩
    rw [hT]
    have t1 : 1 ≤ T := by omega
    have t2 : T ≤ 1000000000 := by omega
    have CA1 := Lib.hid (CA.out T _ HBW.out t1 t2)
    by_cases hlt : k < k0
    · have hq := F4.out k hlt
      rw [hT] at hq
      rw [hq] at CA1
      have HT := Lib.hid hT
      clear hq hT
      go_wp2_with fail
      refine CA1.out.mono ?_
      rintro en w2 ⟨rfl, mm, rfl⟩
      go_wp2
      go_roundw
      case rel => exact ⟨k + 1, by omega, by rw [← HT.out]; first | rfl | go_num | (congr 1; omega), bn HBW.out _⟩
      case measure => simp [intOf]; have := HT.out; omega
    · have hkk : k = k0 := by omega
      subst hkk
      have hq := F3.out
      rw [hT] at hq
      rw [hq] at CA1
      have HT := Lib.hid hT
      clear hq hT
      go_wp2_with fail
      refine CA1.out.mono ?_
      rintro en w2 ⟨rfl, mm, rfl⟩
      go_wp2
      go_ret2
      exact ⟨by rw [HT.out]; rfl, bn HBW.out _⟩
theorem wd_rem (x W : Int) (h1 : 1 ≤ x) (h2 : x ≤ 7) (h3 : 1 ≤ W) (h4 : W ≤ 7) : 0 ≤ (x - W + 7) % 7 ∧ (x - W + 7) % 7 ≤ 6 ∧ 0 ≤ x - W + 7 := by omega
set_option maxRecDepth 100000 in
set_option maxHeartbeats 2000000 in
theorem day_2 (A M : Nat) (rest : List Bool) (hr : rest.length = 7) (v : Value) (rules : List Rl) (m d x y : Int) (hE : ruleE (2, m, d, x) = 0) (w : World) (h : Alm w A M rest v rules) (h1 : 1 ≤ y) (h2 : y ≤ 9999) :
    Calls Try.prog 60 #[pA A, rV 2 m d x, .int .i64 y] w (DayR rest (2, m, d, x) y w) := by
  have hd : 1 ≤ m ∧ m ≤ 12 ∧ 1 ≤ d ∧ d ≤ 5 ∧ 1 ≤ x ∧ x ≤ 7 := by
    unfold ruleE at hE
    simp only at hE
    rw [if_neg (by decide), if_pos trivial] at hE
    by_cases c : m < 1 ∨ 12 < m ∨ d < 1 ∨ 5 < d ∨ x < 1 ∨ 7 < x
    · rw [if_pos c] at hE; omega
    · omega
  obtain ⟨m1, m2, d1, d2, x1, x2⟩ := hd
  have hlv := len_bd y m m1 m2
  have hv : Valid y m 1 := ⟨h1, h2, m1, m2, by decide, by omega⟩
  have hb := raw_bd hv
  obtain ⟨u1, u2⟩ := wd_bd (raw y m 1)
  have CR : RowKit.Hid (∀ w, Calls Try.prog 66 #[.agg #[.int .i64 y, .int .i64 m, .int .i64 1]] w (rawQ y m 1 w)) := Lib.hid (fun w => raw_any y m 1 w h1 (by omega) m1 m2 (by omega) (by omega))
  have CW : RowKit.Hid (∀ w, Calls Try.prog 53 #[.int .i64 (raw y m 1)] w fun e w' => e = .returned (.int .i64 (wd (raw y m 1))) ∧ w = w') := Lib.hid (fun w => weekday_any _ w (by omega) (by omega))
  have CL : RowKit.Hid (∀ w, Calls Try.prog 65 #[.int .i64 y, .int .i64 m] w fun e w' => e = .returned (.int .i64 (len0 y m)) ∧ w = w') := Lib.hid (fun w => len0_any y m w)
  have hl0 : len0 y m = len y m := by unfold len0; rw [if_pos ⟨h1, h2, m1, m2⟩]
  rw [hl0] at CL
  have HR : RowKit.Hid (dayF rest (2, m, d, x) y = (if raw y m 1 + len y m ≤ raw y m 1 + ((x - wd (raw y m 1) + 7) % 7 + 7 * (d - 1)) then raw y m 1 + ((x - wd (raw y m 1) + 7) % 7 + 7 * (d - 1)) - 7 else raw y m 1 + ((x - wd (raw y m 1) + 7) % 7 + 7 * (d - 1)), true)) := Lib.hid (by
    unfold dayF ruleD; simp only; rw [if_neg (by decide), if_pos trivial, hl0]
    simp only [Int.add_assoc])
  have HB0 := Lib.hid ((br w).alloc (Nat.le_refl _) (.cells #[.int .i64 2, .int .i64 m, .int .i64 d, .int .i64 x] 72))
  have HX := Lib.hid (Box.new w 72 [.int .i64 2, .int .i64 m, .int .i64 d, .int .i64 x])
  unfold DayR
  rw [HR.out]
  unfold rawQ at CR
  obtain ⟨N, hN⟩ : ∃ N, raw y m 1 = N := ⟨_, rfl⟩
  rw [hN] at hb u1 u2 CR CW ⊢
  clear HR hN hv hE
  obtain ⟨W, hW⟩ : ∃ W, wd N = W := ⟨_, rfl⟩
  rw [hW] at u1 u2 CW ⊢
  clear hW
  obtain ⟨L, hL⟩ : ∃ L, len y m = L := ⟨_, rfl⟩
  rw [hL] at hlv CL ⊢
  clear hL hl0
  obtain ⟨q1, q2, q3⟩ := wd_rem x W x1 x2 u1 u2
  obtain ⟨X, hX⟩ : ∃ X, x - W + 7 = X := ⟨_, rfl⟩
  rw [hX] at q1 q2 q3 ⊢
  obtain ⟨q, hq⟩ : ∃ q, X % 7 = q := ⟨_, rfl⟩
  rw [hq] at q1 q2 ⊢
  have X2 : X ≤ 20 := by omega
  by_cases c : N + L ≤ N + (q + 7 * (d - 1))
  · rw [if_pos c]
    go_enter Try.func60, Try.ntmps60
    go_wp2_with fail
    refine (CR.out _).mono ?_
    rintro en w1 ⟨rfl, b1⟩
    have HB1 := Lib.hid (bt HB0.out b1)
    have c0 := (HX.out.next b1).cell 0; have c1 := (HX.out.next b1).cell 1; have c2 := (HX.out.next b1).cell 2; have c3 := (HX.out.next b1).cell 3
    simp only [List.getElem?_cons_zero, List.getElem?_cons_succ] at c0 c1 c2 c3
    clear b1 HB0
    go_wp2_with fail
    refine (CL.out _).mono ?_
    rintro en w2 ⟨rfl, e2⟩
    subst e2
    go_wp2_with fail
    go_quiet ((go_at_call 53; exact qz (CW.out _)))
    go_wp2
    go_ret2
    exact ⟨by first | rfl | (simp; done), bn HB1.out _⟩
  · rw [if_neg c]
    go_enter Try.func60, Try.ntmps60
    go_wp2_with fail
    refine (CR.out _).mono ?_
    rintro en w1 ⟨rfl, b1⟩
    have HB1 := Lib.hid (bt HB0.out b1)
    have c0 := (HX.out.next b1).cell 0; have c1 := (HX.out.next b1).cell 1; have c2 := (HX.out.next b1).cell 2; have c3 := (HX.out.next b1).cell 3
    simp only [List.getElem?_cons_zero, List.getElem?_cons_succ] at c0 c1 c2 c3
    clear b1 HB0
    go_wp2_with fail
    refine (CL.out _).mono ?_
    rintro en w2 ⟨rfl, e2⟩
    subst e2
    go_wp2_with fail
    go_quiet ((go_at_call 53; exact qz (CW.out _)))
    go_wp2
    go_ret2
    exact ⟨by first | rfl | (simp; done), bn HB1.out _⟩
set_option maxRecDepth 100000 in
set_option maxHeartbeats 2000000 in
theorem day_3 (A M : Nat) (rest : List Bool) (m d x y : Int) (hE : ruleE (3, m, d, x) = 0) (w : World) :
    Calls Try.prog 60 #[pA A, rV 3 m d x, .int .i64 y] w (DayR rest (3, m, d, x) y w) := by
  have hd : -100 ≤ d ∧ d ≤ 100 := by
    unfold ruleE at hE
    simp only at hE
    rw [if_neg (by decide), if_neg (by decide), if_pos trivial] at hE
    by_cases c : m ≠ 0 ∨ x ≠ 0
    · rw [if_pos c] at hE; omega
    · rw [if_neg c] at hE
      by_cases c2 : d < -100 ∨ 100 < d
      · rw [if_pos c2] at hE; omega
      · omega
  have CF : RowKit.Hid (∀ w, Calls Try.prog 77 #[.int .i64 y, .int .i64 d] w (FeastQ y d w)) := Lib.hid (fun w => feast_any y d w)
  have HR : RowKit.Hid (dayF rest (3, m, d, x) y = ((feastF y d).1, (feastF y d).2 == 0)) := Lib.hid (by
    unfold dayF ruleD feastF; simp only
    rw [if_neg (by decide), if_neg (by decide)]
    by_cases c : 1583 ≤ y ∧ y ≤ 9999
    · rw [if_pos c, if_pos ⟨c.1, c.2, hd.1, hd.2⟩]; rfl
    · rw [if_neg c, if_neg (fun h => c ⟨h.1, h.2.1⟩)]; rfl)
  have HB0 := Lib.hid ((br w).alloc (Nat.le_refl _) (.cells #[.int .i64 3, .int .i64 m, .int .i64 d, .int .i64 x] 72))
  unfold DayR
  rw [HR.out]
  unfold FeastQ at CF
  obtain ⟨P, hP⟩ : ∃ P, feastF y d = P := ⟨_, rfl⟩
  rw [hP] at CF ⊢
  clear hP HR
  obtain ⟨p1, p2⟩ := P
  simp only at CF ⊢
  go_enter Try.func60, Try.ntmps60
  go_wp2_with fail
  refine (CF.out _).mono ?_
  rintro en w1 ⟨rfl, b1⟩
  have HB1 := Lib.hid (bt HB0.out b1)
  clear b1
  go_wp2
  go_ret2
  exact ⟨by first | rfl | (simp; done), HB1.out⟩
theorem day_any (A M : Nat) (rest : List Bool) (hr : rest.length = 7) (hf : rest.all id = false) (v : Value) (rules : List Rl) (r : Rl) (y : Int) (hE : ruleE r = 0) (w : World) (h : Alm w A M rest v rules) (h1 : 1 ≤ y) (h2 : y ≤ 9999) :
    Calls Try.prog 60 #[pA A, rV r.1 r.2.1 r.2.2.1 r.2.2.2, .int .i64 y] w (DayR rest r y w) := by
  obtain ⟨k, m, d, x⟩ := r
  by_cases c1 : k = 1
  · subst c1; exact day_1 A M rest hr hf v rules m d x y hE w h h1 h2
  · by_cases c2 : k = 2
    · subst c2; exact day_2 A M rest hr v rules m d x y hE w h h1 h2
    · by_cases c3 : k = 3
      · subst c3; exact day_3 A M rest m d x y hE w
      · unfold ruleE at hE
        simp only at hE
        rw [if_neg c1, if_neg c2, if_neg c3] at hE
        omega
end Wk
end Go.Proofs.Ytjicpflgkhdppaa
