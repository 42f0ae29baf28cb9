/- Days of work: the almanac in memory. -/
import Derived.Test.YtjicpflgkhdppaaWorkCheckR
import Derived.Test.YtjicpflgkhdppaaWorkSort
import Derived.Maps.OwnSet
import Derived.BigQuiet
set_option linter.unusedSimpArgs false
set_option linter.unusedVariables false
namespace Go.Proofs.Ytjicpflgkhdppaa
open Go.RowKit
namespace Wk
open Dt
open Go.Maps (Keyed)
open Go.WideElems (Fit)
/-- a year's holidays, sorted, each once -/
def hol (rest : List Bool) (rules : List Rl) (y : Int) : List Int := cmpc (srt (days rest rules y))
theorem hol_mem (rest : List Bool) (rules : List Rl) (y n : Int) : n ∈ hol rest rules y ↔ n ∈ days rest rules y := by
  unfold hol; rw [cmpc_mem, srt_mem]
theorem hol_inc (rest : List Bool) (rules : List Rl) (y : Int) : (hol rest rules y).Pairwise (· < ·) := cmpc_inc _ (srt_sorted _)
theorem days_len (rest : List Bool) (rules : List Rl) (y : Int) : (days rest rules y).length ≤ rules.length := List.length_filterMap_le _ _
theorem hol_len (rest : List Bool) (rules : List Rl) (y : Int) : (hol rest rules y).length ≤ rules.length := by
  have a := cmpc_len (srt (days rest rules y))
  rw [srt_len] at a
  exact Nat.le_trans a (days_len _ _ _)
def R0 : Value → Option (DataW Unit × List MemPlace) := fun _ => some (.nil, [])
theorem keyLaw : Keyed Try.prog 3 := Maps.int_keyed Try.underlying3
abbrev almB (rest : List Bool) (v : Value) (M : Nat) : List Value := rest.map Value.bool ++ [v, .map (some M)]
structure Ents (w : World) (M : Nat) (rest : List Bool) (rules : List Rl) : Prop where
  ent : ∃ es clock, w.heap[M]? = some (.map es clock) ∧ Fit Try.prog 3 R0 es clock ∧ ∀ x ∈ es.toList, ∃ y : Int, x.key = .int .i64 y ∧ 0 ≤ y ∧ y ≤ 10000 ∧ RdE elZ w x.val (hol rest rules y)
structure Alm (w : World) (A M : Nat) (rest : List Bool) (v : Value) (rules : List Rl) : Prop where
  box : Box w A 87 (almB rest v M)
  rd : RdE elRl w v rules
  ents : Ents w M rest rules
section
variable {w w' : World} {A M : Nat} {rest : List Bool} {v : Value} {rules : List Rl}
theorem Ents.lt (h : Ents w M rest rules) : M < w.heap.size := by
  obtain ⟨es, clock, hb, _⟩ := h.ent
  exact (Array.getElem?_eq_some_iff.1 hb).1
theorem Ents.next (h : Ents w M rest rules) (hb : Below w.heap.size w w') : Ents w' M rest rules := by
  have hlt := h.lt
  obtain ⟨es, clock, h1, h2, h3⟩ := h.ent
  refine ⟨es, clock, (hb.block M hlt).trans h1, h2, fun x hx => ?_⟩
  obtain ⟨y, a, b, c, d⟩ := h3 x hx
  exact ⟨y, a, b, c, d.below hb⟩
theorem Alm.next (h : Alm w A M rest v rules) (hb : Below w.heap.size w w') : Alm w' A M rest v rules := ⟨h.box.next hb, h.rd.below hb, h.ents.next hb⟩
theorem Alm.dr (h : Alm w A M rest v rules) (n : Nat) : Alm (w.drewN n) A M rest v rules := h.next (bn (br _) n)
/-- what reads as a list still does where only a map was turned -/
theorem rd_turned {α : Type} {k : Nat} {enc : α → List Value} {u : Value} {xs : List α} {es : Array MapEntry} {clock : Nat} (h : Rd k enc w u xs) (henc : ∀ x : α, 0 < (enc x).length) (hM : w.heap[M]? = some (.map es clock)) (hg : w.grownBy w' (some M)) : Rd k enc w' u xs := by
  obtain ⟨a, cap, rfl, h1, h2, h3⟩ := h
  refine ⟨a, cap, rfl, h1, h2, fun hn => ?_⟩
  obtain ⟨b, off, rfl, hlt, hc⟩ := h3 hn
  have hne : b ≠ M := by
    intro e; subst e
    have h0 := henc (xs[0]'hn)
    have := hc 0 hn 0 ((enc (xs[0]'hn))[0]'h0) (by simp [h0])
    simp [World.cell?, hM] at this
  refine ⟨b, off, rfl, Nat.lt_of_lt_of_le hlt hg.size, fun i hi j u hu => ?_⟩
  rw [World.cell?_of_block (hg.block _ hlt (by simpa using hne))]
  exact hc i hi j u hu
theorem Alm.cell7 (h : Alm w A M rest v rules) (hr : rest.length = 7) : w.cell? ⟨A, 7, none⟩ = some v := by
  rw [h.box.cell, List.getElem?_append_right (by simp [hr])]; simp [hr]
theorem Alm.cell8 (h : Alm w A M rest v rules) (hr : rest.length = 7) : w.cell? ⟨A, 8, none⟩ = some (.map (some M)) := by
  rw [h.box.cell, List.getElem?_append_right (by simp [hr])]; simp [hr]
theorem Alm.cellR (h : Alm w A M rest v rules) (hr : rest.length = 7) (k : Nat) (hk : k < 7) : w.cell? ⟨A, k, none⟩ = some (.bool (rest.getD k false)) := by
  rw [h.box.cell, List.getElem?_append_left (by simp [hr, hk])]
  simp [List.getD_eq_getElem?_getD, hr, hk]
end
abbrev pA (A : Nat) : Value := .pointer (some ⟨A, 0, none⟩)
set_option maxHeartbeats 1000000 in
theorem rest_any (A M : Nat) (rest : List Bool) (hr : rest.length = 7) (v : Value) (rules : List Rl) (n : Int) (w : World) (h : Alm w A M rest v rules) (h1 : 1 ≤ n) (h2 : n ≤ 1000000000) :
    Calls Try.prog 68 #[pA A, .int .i64 n] w fun e w' => e = .returned (.bool (isRest rest n)) ∧ ∃ m, w' = w.drewN m := by
  obtain ⟨b1, b2⟩ := wd_bd n
  have hcell := h.cellR hr (wd n - 1).toNat (by omega)
  have CW : RowKit.Hid (∀ w, Calls Try.prog 53 #[.int .i64 n] w fun e w' => e = .returned (.int .i64 (wd n)) ∧ w = w') := Lib.hid (fun w => weekday_any n w h1 h2)
  have HR : RowKit.Hid (isRest rest n = rest.getD (wd n - 1).toNat false) := Lib.hid rfl
  clear h
  obtain ⟨d, hd⟩ : ∃ d, isRest rest n = d := ⟨_, rfl⟩
  rw [← HR.out, hd] at hcell
  rw [hd]
  clear HR hd
  obtain ⟨x, hx⟩ : ∃ x, wd n = x := ⟨_, rfl⟩
  rw [hx] at b1 b2 hcell CW
  clear hx
  obtain ⟨j, rfl⟩ : ∃ j : Nat, x = (j : Int) + 1 := ⟨(x - 1).toNat, by omega⟩
  have e1 : ((j : Int) + 1 - 1) = (j : Int) := by omega
  rw [e1, Int.toNat_natCast] at hcell
  have hj : j < 7 := by omega
  go_enter Try.func68, Try.ntmps68
  go_wp2_with fail
  go_quiet ((go_at_call 53; exact qz (CW.out _)))
  go_wp2
  go_ret
  exact ⟨by first | rfl | (simp; done), _, rfl⟩
end Wk
end Go.Proofs.Ytjicpflgkhdppaa
/- Days of work: a rule's day in a year. -/
set_option linter.unusedVariables false
namespace Go.Proofs.Ytjicpflgkhdppaa
open Go.RowKit
namespace Wk
open Dt
theorem free_ok (rest : List Bool) (hr : rest.length = 7) (hf : rest.all id = false) (n : Int) : ∃ k : Nat, k < 7 ∧ free rest n 7 = n + k ∧ isRest rest (n + k) = false ∧ ∀ j : Nat, j < k → isRest rest (n + j) = true := by
  have hex : ∃ k : Nat, k < 7 ∧ isRest rest (n + k) = false := by
    have : ∃ i, ∃ h : i < rest.length, rest[i] = false := by
      rw [Bool.eq_false_iff] at hf
      have h2 : ¬ ∀ x ∈ rest, id x = true := fun h => hf (List.all_eq_true.2 h)
      have : ∃ x, x ∈ rest ∧ x = false := Classical.byContradiction fun hn => h2 fun x hx => by
        cases hxx : x
        · exact absurd ⟨x, hx, hxx⟩ hn
        · rfl
      obtain ⟨x, hx, h3⟩ := this
      obtain ⟨i, hi, e⟩ := List.getElem_of_mem hx
      exact ⟨i, hi, by rw [e, h3]⟩
    obtain ⟨i, hi, hv⟩ := this
    refine ⟨(((i : Int) - (n - 1)) % 7).toNat, by omega, ?_⟩
    unfold isRest
    have hw : (wd (n + (((i : Int) - (n - 1)) % 7).toNat) - 1).toNat = i := by
      unfold wd; omega
    rw [hw, List.getD_eq_getElem?_getD, List.getElem?_eq_getElem hi]; simpa using hv
  have gen : ∀ (f : Nat) (a : Int), (∃ k : Nat, k < f ∧ isRest rest (a + k) = false) → ∃ k : Nat, k < f ∧ free rest a f = a + k ∧ isRest rest (a + k) = false ∧ ∀ j : Nat, j < k → isRest rest (a + j) = true := by
    intro f
    induction f with
    | zero => rintro a ⟨k, hk, _⟩; omega
    | succ f ih =>
      rintro a ⟨k, hk, hkr⟩
      by_cases h0 : isRest rest a = true
      · have hk0 : k ≠ 0 := by
          intro e; subst e
          simp [h0] at hkr
        obtain ⟨k', h1, h2, h3, h4⟩ := ih (a + 1) ⟨k - 1, by omega, by rw [show a + 1 + ((k - 1 : Nat) : Int) = a + k by omega]; exact hkr⟩
        refine ⟨k' + 1, by omega, ?_, ?_, ?_⟩
        · show (if isRest rest a = true then free rest (a + 1) f else a) = _
          rw [if_pos h0, h2]; omega
        · rw [show a + ((k' + 1 : Nat) : Int) = a + 1 + k' by omega]; exact h3
        · intro j hj
          by_cases e : j = 0
          · subst e; simpa using h0
          · have := h4 (j - 1) (by omega)
            rw [show a + 1 + ((j - 1 : Nat) : Int) = a + j by omega] at this
            exact this
      · refine ⟨0, by omega, ?_, by simpa using h0, fun j hj => by omega⟩
        show (if isRest rest a = true then free rest (a + 1) f else a) = _
        rw [if_neg h0]; simp
  exact gen 7 n hex
/-- what the code hands back -/
def dayF (rest : List Bool) (r : Rl) (y : Int) : Int × Bool := match ruleD rest r y with | some n => (n, true) | none => (0, false)
def DayR (rest : List Bool) (r : Rl) (y : Int) (w : World) (e : Ending) (w' : World) : Prop := e = .returned (.tuple #[.int .i64 (dayF rest r y).1, .bool (dayF rest r y).2]) ∧ Below w.heap.size w w'
theorem len0_2001 {m d : Int} (h1 : 1 ≤ d) (h2 : d ≤ len0 2001 m) : 1 ≤ m ∧ m ≤ 12 ∧ d ≤ 31 ∧ d ≤ len 2001 m := by
  unfold len0 at h2
  split at h2
  · rename_i h
    have := len_bd 2001 m h.2.2.1 h.2.2.2
    exact ⟨h.2.2.1, h.2.2.2, by omega, h2⟩
  · omega
theorem len_2001 (y m : Int) (h1 : 1 ≤ m) (h2 : m ≤ 12) : len 2001 m ≤ len y m := by
  have a := len_vals 2001
  have b := len_vals y
  have c := lp_01 y
  have d : lp 2001 = 0 := by decide
  rcases month_cases h1 h2 with rfl | rfl | rfl | rfl | rfl | rfl | rfl | rfl | rfl | rfl | rfl | rfl <;> omega
set_option maxRecDepth 100000 in
set_option maxHeartbeats 2000000 in
theorem day_1 (A M : Nat) (rest : List Bool) (hr : rest.length = 7) (hf : rest.all id = false) (v : Value) (rules : List Rl) (m d x y : Int) (hE : ruleE (1, m, d, x) = 0) (w : World) (h : Alm w A M rest v rules) (h1 : 1 ≤ y) (h2 : y ≤ 9999) :
    Calls Try.prog 60 #[pA A, rV 1 m d x, .int .i64 y] w (DayR rest (1, m, d, x) y w) := by
  have hd : 1 ≤ d ∧ d ≤ len0 2001 m ∧ x = 0 := by
    unfold ruleE at hE
    simp only at hE
    rw [if_pos trivial] at hE
    by_cases c : d < 1 ∨ len0 2001 m < d
    · rw [if_pos c] at hE; omega
    · rw [if_neg c] at hE
      refine ⟨by omega, by omega, ?_⟩
      by_cases c2 : x = 0
      · exact c2
      · rw [if_pos c2] at hE; omega
  obtain ⟨d1, d2, rfl⟩ := hd
  obtain ⟨m1, m2, d3, d4⟩ := len0_2001 d1 d2
  have hv : Valid y m d := ⟨h1, h2, m1, m2, d1, Int.le_trans d4 (len_2001 y m m1 m2)⟩
  have hb := raw_bd hv
  obtain ⟨k0, f1, f2, f3, f4⟩ := free_ok rest hr hf (raw y m d)
  have HR : RowKit.Hid (dayF rest (1, m, d, 0) y = (raw y m d + k0, true)) := Lib.hid (by unfold dayF ruleD; simp only; rw [if_pos trivial, f2])
  have CR : RowKit.Hid (∀ w, Calls Try.prog 66 #[.agg #[.int .i64 y, .int .i64 m, .int .i64 d]] w (rawQ y m d w)) := Lib.hid (fun w => raw_any y m d w h1 (by omega) m1 m2 (by omega) (by omega))
  have CA : RowKit.Hid (∀ n w', Below w.heap.size w w' → 1 ≤ n → n ≤ 1000000000 → Calls Try.prog 68 #[pA A, .int .i64 n] w' fun e w'' => e = .returned (.bool (isRest rest n)) ∧ ∃ m, w'' = w'.drewN m) := Lib.hid (fun n w' hb g1 g2 => rest_any A M rest hr v rules n w' (h.next hb) g1 g2)
  have F3 := Lib.hid f3; have F4 := Lib.hid f4
  have HB0 := Lib.hid ((br w).alloc (Nat.le_refl _) (.cells #[.int .i64 1, .int .i64 m, .int .i64 d, .int .i64 0] 72))
  unfold DayR
  rw [HR.out]
  unfold rawQ at CR
  obtain ⟨N, hN⟩ : ∃ N, raw y m d = N := ⟨_, rfl⟩
  rw [hN] at hb F3 F4 CR
  rw [hN]
  clear HR hE hf f2 f3 f4 hN hv d2 d4 h
  go_enter Try.func60, Try.ntmps60
  go_wp2_with fail
  refine (CR.out _).mono ?_
  rintro en w1 ⟨rfl, b1⟩
  have HB1 := Lib.hid (bt HB0.out b1)
  clear b1 HB0
  go_wp2
  go_loopw [8] (fun i wr => ∃ k : Nat, k ≤ k0 ∧ i = .int .i64 (N + k) ∧ Below w.heap.size w wr) (fun i _ => (N + k0 - intOf i).toNat)
  case atStart => exact ⟨0, Nat.zero_le _, by simp, HB1.out⟩
  case round =>
    obtain ⟨k, hk, rfl, hbw⟩ := hrel
    have HBW := Lib.hid hbw
    clear hbw HB1
    obtain ⟨T, hT⟩ : ∃ T, N + (k : Int) = T := ⟨_, rfl⟩
    rw [hT]
    have t1 : 1 ≤ T := by omega
    have t2 : T ≤ 1000000000 := by omega
    have CA1 := Lib.hid (CA.out T _ HBW.out t1 t2)
    by_cases hlt : k < k0
    · have hq := F4.out k hlt
      rw [hT] at hq
      rw [hq] at CA1
      have HT := Lib.hid hT
      clear hq hT
      go_wp2_with fail
      refine CA1.out.mono ?_
      rintro en w2 ⟨rfl, mm, rfl⟩
      go_wp2
      go_roundw
      case rel => exact ⟨k + 1, by omega, by rw [← HT.out]; first | rfl | go_num | (congr 1; omega), bn HBW.out _⟩
      case measure => simp [intOf]; have := HT.out; omega
    · have hkk : k = k0 := by omega
      subst hkk
      have hq := F3.out
      rw [hT] at hq
      rw [hq] at CA1
      have HT := Lib.hid hT
      clear hq hT
      go_wp2_with fail
      refine CA1.out.mono ?_
      rintro en w2 ⟨rfl, mm, rfl⟩
      go_wp2
      go_ret2
      exact ⟨by rw [HT.out]; rfl, bn HBW.out _⟩
theorem wd_rem (x W : Int) (h1 : 1 ≤ x) (h2 : x ≤ 7) (h3 : 1 ≤ W) (h4 : W ≤ 7) : 0 ≤ (x - W + 7) % 7 ∧ (x - W + 7) % 7 ≤ 6 ∧ 0 ≤ x - W + 7 := by omega
set_option maxRecDepth 100000 in
set_option maxHeartbeats 2000000 in
theorem day_2 (A M : Nat) (rest : List Bool) (hr : rest.length = 7) (v : Value) (rules : List Rl) (m d x y : Int) (hE : ruleE (2, m, d, x) = 0) (w : World) (h : Alm w A M rest v rules) (h1 : 1 ≤ y) (h2 : y ≤ 9999) :
    Calls Try.prog 60 #[pA A, rV 2 m d x, .int .i64 y] w (DayR rest (2, m, d, x) y w) := by
  have hd : 1 ≤ m ∧ m ≤ 12 ∧ 1 ≤ d ∧ d ≤ 5 ∧ 1 ≤ x ∧ x ≤ 7 := by
    unfold ruleE at hE
    simp only at hE
    rw [if_neg (by decide), if_pos trivial] at hE
    by_cases c : m < 1 ∨ 12 < m ∨ d < 1 ∨ 5 < d ∨ x < 1 ∨ 7 < x
    · rw [if_pos c] at hE; omega
    · omega
  obtain ⟨m1, m2, d1, d2, x1, x2⟩ := hd
  have hlv := len_bd y m m1 m2
  have hv : Valid y m 1 := ⟨h1, h2, m1, m2, by decide, by omega⟩
  have hb := raw_bd hv
  obtain ⟨u1, u2⟩ := wd_bd (raw y m 1)
  have CR : RowKit.Hid (∀ w, Calls Try.prog 66 #[.agg #[.int .i64 y, .int .i64 m, .int .i64 1]] w (rawQ y m 1 w)) := Lib.hid (fun w => raw_any y m 1 w h1 (by omega) m1 m2 (by omega) (by omega))
  have CW : RowKit.Hid (∀ w, Calls Try.prog 53 #[.int .i64 (raw y m 1)] w fun e w' => e = .returned (.int .i64 (wd (raw y m 1))) ∧ w = w') := Lib.hid (fun w => weekday_any _ w (by omega) (by omega))
  have CL : RowKit.Hid (∀ w, Calls Try.prog 65 #[.int .i64 y, .int .i64 m] w fun e w' => e = .returned (.int .i64 (len0 y m)) ∧ w = w') := Lib.hid (fun w => len0_any y m w)
  have hl0 : len0 y m = len y m := by unfold len0; rw [if_pos ⟨h1, h2, m1, m2⟩]
  rw [hl0] at CL
  have HR : RowKit.Hid (dayF rest (2, m, d, x) y = (if raw y m 1 + len y m ≤ raw y m 1 + ((x - wd (raw y m 1) + 7) % 7 + 7 * (d - 1)) then raw y m 1 + ((x - wd (raw y m 1) + 7) % 7 + 7 * (d - 1)) - 7 else raw y m 1 + ((x - wd (raw y m 1) + 7) % 7 + 7 * (d - 1)), true)) := Lib.hid (by
    unfold dayF ruleD; simp only; rw [if_neg (by decide), if_pos trivial, hl0]
    simp only [Int.add_assoc])
  have HB0 := Lib.hid ((br w).alloc (Nat.le_refl _) (.cells #[.int .i64 2, .int .i64 m, .int .i64 d, .int .i64 x] 72))
  have HX := Lib.hid (Box.new w 72 [.int .i64 2, .int .i64 m, .int .i64 d, .int .i64 x])
  unfold DayR
  rw [HR.out]
  unfold rawQ at CR
  obtain ⟨N, hN⟩ : ∃ N, raw y m 1 = N := ⟨_, rfl⟩
  rw [hN] at hb u1 u2 CR CW ⊢
  clear HR hN hv hE
  obtain ⟨W, hW⟩ : ∃ W, wd N = W := ⟨_, rfl⟩
  rw [hW] at u1 u2 CW ⊢
  clear hW
  obtain ⟨L, hL⟩ : ∃ L, len y m = L := ⟨_, rfl⟩
  rw [hL] at hlv CL ⊢
  clear hL hl0
  obtain ⟨q1, q2, q3⟩ := wd_rem x W x1 x2 u1 u2
  obtain ⟨X, hX⟩ : ∃ X, x - W + 7 = X := ⟨_, rfl⟩
  rw [hX] at q1 q2 q3 ⊢
  obtain ⟨q, hq⟩ : ∃ q, X % 7 = q := ⟨_, rfl⟩
  rw [hq] at q1 q2 ⊢
  have X2 : X ≤ 20 := by omega
  by_cases c : N + L ≤ N + (q + 7 * (d - 1))
  · rw [if_pos c]
    go_enter Try.func60, Try.ntmps60
    go_wp2_with fail
    refine (CR.out _).mono ?_
    rintro en w1 ⟨rfl, b1⟩
    have HB1 := Lib.hid (bt HB0.out b1)
    have c0 := (HX.out.next b1).cell 0; have c1 := (HX.out.next b1).cell 1; have c2 := (HX.out.next b1).cell 2; have c3 := (HX.out.next b1).cell 3
    simp only [List.getElem?_cons_zero, List.getElem?_cons_succ] at c0 c1 c2 c3
    clear b1 HB0
    go_wp2_with fail
    refine (CL.out _).mono ?_
    rintro en w2 ⟨rfl, e2⟩
    subst e2
    go_wp2_with fail
    go_quiet ((go_at_call 53; exact qz (CW.out _)))
    go_wp2
    go_ret2
    exact ⟨by first | rfl | (simp; done), bn HB1.out _⟩
  · rw [if_neg c]
    go_enter Try.func60, Try.ntmps60
    go_wp2_with fail
    refine (CR.out _).mono ?_
    rintro en w1 ⟨rfl, b1⟩
    have HB1 := Lib.hid (bt HB0.out b1)
    have c0 := (HX.out.next b1).cell 0; have c1 := (HX.out.next b1).cell 1; have c2 := (HX.out.next b1).cell 2; have c3 := (HX.out.next b1).cell 3
    simp only [List.getElem?_cons_zero, List.getElem?_cons_succ] at c0 c1 c2 c3
    clear b1 HB0
    go_wp2_with fail
    refine (CL.out _).mono ?_
    rintro en w2 ⟨rfl, e2⟩
    subst e2
    go_wp2_with fail
    go_quiet ((go_at_call 53; exact qz (CW.out _)))
    go_wp2
    go_ret2
    exact ⟨by first | rfl | (simp; done), bn HB1.out _⟩
set_option maxRecDepth 100000 in
set_option maxHeartbeats 2000000 in
theorem day_3 (A M : Nat) (rest : List Bool) (m d x y : Int) (hE : ruleE (3, m, d, x) = 0) (w : World) :
    Calls Try.prog 60 #[pA A, rV 3 m d x, .int .i64 y] w (DayR rest (3, m, d, x) y w) := by
  have hd : -100 ≤ d ∧ d ≤ 100 := by
    unfold ruleE at hE
    simp only at hE
    rw [if_neg (by decide), if_neg (by decide), if_pos trivial] at hE
    by_cases c : m ≠ 0 ∨ x ≠ 0
    · rw [if_pos c] at hE; omega
    · rw [if_neg c] at hE
      by_cases c2 : d < -100 ∨ 100 < d
      · rw [if_pos c2] at hE; omega
      · omega
  have CF : RowKit.Hid (∀ w, Calls Try.prog 77 #[.int .i64 y, .int .i64 d] w (FeastQ y d w)) := Lib.hid (fun w => feast_any y d w)
  have HR : RowKit.Hid (dayF rest (3, m, d, x) y = ((feastF y d).1, (feastF y d).2 == 0)) := Lib.hid (by
    unfold dayF ruleD feastF; simp only
    rw [if_neg (by decide), if_neg (by decide)]
    by_cases c : 1583 ≤ y ∧ y ≤ 9999
    · rw [if_pos c, if_pos ⟨c.1, c.2, hd.1, hd.2⟩]; rfl
    · rw [if_neg c, if_neg (fun h => c ⟨h.1, h.2.1⟩)]; rfl)
  have HB0 := Lib.hid ((br w).alloc (Nat.le_refl _) (.cells #[.int .i64 3, .int .i64 m, .int .i64 d, .int .i64 x] 72))
  unfold DayR
  rw [HR.out]
  unfold FeastQ at CF
  obtain ⟨P, hP⟩ : ∃ P, feastF y d = P := ⟨_, rfl⟩
  rw [hP] at CF ⊢
  clear hP HR
  obtain ⟨p1, p2⟩ := P
  simp only at CF ⊢
  go_enter Try.func60, Try.ntmps60
  go_wp2_with fail
  refine (CF.out _).mono ?_
  rintro en w1 ⟨rfl, b1⟩
  have HB1 := Lib.hid (bt HB0.out b1)
  clear b1
  go_wp2
  go_ret2
  exact ⟨by first | rfl | (simp; done), HB1.out⟩
theorem day_any (A M : Nat) (rest : List Bool) (hr : rest.length = 7) (hf : rest.all id = false) (v : Value) (rules : List Rl) (r : Rl) (y : Int) (hE : ruleE r = 0) (w : World) (h : Alm w A M rest v rules) (h1 : 1 ≤ y) (h2 : y ≤ 9999) :
    Calls Try.prog 60 #[pA A, rV r.1 r.2.1 r.2.2.1 r.2.2.2, .int .i64 y] w (DayR rest r y w) := by
  obtain ⟨k, m, d, x⟩ := r
  by_cases c1 : k = 1
  · subst c1; exact day_1 A M rest hr hf v rules m d x y hE w h h1 h2
  · by_cases c2 : k = 2
    · subst c2; exact day_2 A M rest hr v rules m d x y hE w h h1 h2
    · by_cases c3 : k = 3
      · subst c3; exact day_3 A M rest m d x y hE w
      · unfold ruleE at hE
        simp only at hE
        rw [if_neg c1, if_neg c2, if_neg c3] at hE
        omega
end Wk
end Go.Proofs.Ytjicpflgkhdppaa
/- Days of work: a year's holidays, kept in the map. -/
set_option linter.unusedVariables false
namespace Go.Proofs.Ytjicpflgkhdppaa
open Go.RowKit
namespace Wk
open Dt
open Go.Maps (Keyed)
open Go.WideElems (Fit)
theorem pigeon : ∀ (n : Nat) (l : List Nat), l.Nodup → (∀ x ∈ l, x < n) → l.length ≤ n
  | 0, l, _, h => by
    cases l with
    | nil => simp
    | cons a l => have := h a (by simp); omega
  | n + 1, l, hd, h => by
    by_cases hn : n ∈ l
    · have h1 := pigeon n (l.erase n) (hd.erase n) (fun x hx => by
        have h2 := h x (List.mem_of_mem_erase hx)
        have h3 : x ≠ n := fun e => by subst e; exact (List.Nodup.not_mem_erase hd) hx
        omega)
      rw [List.length_erase_of_mem hn] at h1
      omega
    · have := pigeon n l hd (fun x hx => by
        have h2 := h x hx
        have h3 : x ≠ n := fun e => hn (e ▸ hx)
        omega)
      omega
theorem ents_room {es : Array MapEntry} {clock : Nat} (F : Fit (H := Unit) Try.prog 3 R0 es clock) (h : ∀ x ∈ es.toList, ∃ y : Int, x.key = .int .i64 y ∧ 0 ≤ y ∧ y ≤ 10000) : es.size ≤ 10001 := by
  have hp : es.toList.Pairwise (fun x y => x.key ≠ y.key) := ((MapKept.stamped_iff es clock).1 F.stamped).2.2
  have hd : (es.toList.map (fun x => (intOf x.key).toNat)).Nodup := by
    unfold List.Nodup
    rw [List.pairwise_map]
    refine hp.imp_of_mem (fun {a b} ha hb hne e => hne ?_)
    obtain ⟨y, h1, h2, h3⟩ := h a ha
    obtain ⟨z, g1, g2, g3⟩ := h b hb
    rw [h1, g1] at e ⊢
    simp only [intOf] at e
    have : y = z := by omega
    rw [this]
  have := pigeon 10001 _ hd (fun x hx => by
    obtain ⟨a, ha, rfl⟩ := List.mem_map.1 hx
    obtain ⟨y, h1, h2, h3⟩ := h a ha
    rw [h1]; simp only [intOf]; omega)
  simpa using this
theorem wf_year {y : Int} (h1 : 0 ≤ y) (h2 : y ≤ 10000) : (Lit.int .i64 y).wf = true := by
  simp [Lit.wf, IntKind.min, IntKind.max, IntKind.signed, IntKind.bits]; omega
theorem kY {y : Int} (h1 : 0 ≤ y) (h2 : y ≤ 10000) : keyOf Try.prog 3 (.int .i64 y) = some (.int .i64 y) := Maps.keyOf_int_mk Try.underlying3 (wf_year h1 h2)
theorem zeroL (w : World) : (zeroValue 26).run Try.prog w = .ok (.slice none 0 0) w := by kernel_rfl
section
variable {w : World} {M : Nat} {rest : List Bool} {rules : List Rl}
theorem ents_store (h : Ents w M rest rules) {y : Int} (h1 : 0 ≤ y) (h2 : y ≤ 10000) {u : Value} (hu : RdE elZ w u (hol rest rules y)) :
    ∃ w', (Instr.mapUpdate 85 (.map (some M)) (.int .i64 y) u).run Try.prog w = .ok () w' ∧ Ents w' M rest rules ∧ w.grownBy w' (some M) := by
  obtain ⟨es, clock, hM, F, he⟩ := h.ent
  have hroom := ents_room F (fun x hx => by obtain ⟨y, a, b, c, _⟩ := he x hx; exact ⟨y, a, b, c⟩)
  obtain ⟨es', clock', hrun, F', _, _, _, hwho⟩ := Maps.fit_store (R' := R0) (val := u) keyLaw Try.underlying85 hM F (by unfold maxLen; omega) (fun _ _ _ _ hz => hz) (kY h1 h2) (yv := (.nil, [])) rfl
  have hlt : M < w.heap.size := h.lt
  have hM' := ChangeMaps.heap_setBlock_same hM (.map es' clock')
  have hg : w.grownBy (ChangeMaps.setBlock w M (.map es' clock')) (some M) :=
    ⟨rfl, rfl, rfl, by simp [ChangeMaps.setBlock], fun i _ hi => ChangeMaps.heap_setBlock_other hM _ (fun e => hi (by rw [e]))⟩
  refine ⟨_, hrun, ⟨es', clock', hM', F', fun x hx => ?_⟩, hg⟩
  rcases hwho x hx with ⟨g1, g2⟩ | ⟨g1, g2⟩
  · obtain ⟨z, a, b, c, d⟩ := he x g1
    exact ⟨z, a, b, c, rd_turned d (fun _ => by simp [eI]) hM hg⟩
  · exact ⟨y, g1, h1, h2, by rw [g2]; exact rd_turned hu (fun _ => by simp [eI]) hM hg⟩
theorem ents_look (h : Ents w M rest rules) {y : Int} (h1 : 0 ≤ y) (h2 : y ≤ 10000) :
    (Instr.lookup 85 (.map (some M)) (.int .i64 y) true).run Try.prog w = .ok (.tuple #[.slice none 0 0, .bool false]) w ∨
    ∃ u, (Instr.lookup 85 (.map (some M)) (.int .i64 y) true).run Try.prog w = .ok (.tuple #[u, .bool true]) w ∧ RdE elZ w u (hol rest rules y) := by
  obtain ⟨es, clock, hM, F, he⟩ := h.ent
  rcases Maps.fit_look true keyLaw Try.underlying85 (zeroL w) hM F (kY h1 h2) with ⟨hrun, _, _⟩ | ⟨e0, z, hm, hk, hrun, _⟩
  · exact .inl hrun
  · refine .inr ⟨e0.val, hrun, ?_⟩
    obtain ⟨y', a, b, c, d⟩ := he e0 hm
    rw [hk] at a
    injection a with _ a
    subst a
    exact d
end
theorem days_succ (rest : List Bool) (rules : List Rl) (y : Int) (k : Nat) (h : k < rules.length) : days rest (rules.take (k + 1)) y = days rest (rules.take k) y ++ (if (dayF rest rules[k] y).2 = true then [(dayF rest rules[k] y).1] else []) := by
  unfold days dayF
  rw [List.take_succ_eq_append_getElem h, List.filterMap_append]
  congr 1
  cases hd : ruleD rest rules[k] y <;> simp [List.filterMap_cons, hd]
theorem rulesE_all : ∀ (l : List Rl), rulesE l = 0 → ∀ r ∈ l, ruleE r = 0
  | [], _, r, hr => by cases hr
  | a :: l, h, r, hr => by
    unfold rulesE at h
    by_cases c : ruleE a ≠ 0
    · rw [if_pos c] at h; exact absurd h c
    · rw [if_neg c] at h
      rcases List.mem_cons.1 hr with rfl | hr
      · exact Classical.byContradiction c
      · exact rulesE_all l h r hr
theorem Alm.grown {w w' : World} {A M : Nat} {rest : List Bool} {v : Value} {rules : List Rl} (h : Alm w A M rest v rules) (hg : w.grownBy w' (some M)) (he : Ents w' M rest rules) : Alm w' A M rest v rules := by
  obtain ⟨es, clock, hM, _⟩ := h.ents.ent
  have hne : A ≠ M := by
    intro e; subst e
    have := h.box
    unfold Box at this
    rw [hM] at this; cases this
  exact ⟨h.box.of_block (hg.block _ h.box.lt (by simpa using hne)), rd_turned h.rd (fun _ => by simp [eRl]) hM hg, he⟩
def OfAQ (A M : Nat) (rest : List Bool) (v : Value) (rules : List Rl) (xs : List Int) (w : World) (e : Ending) (w' : World) : Prop := ∃ u, e = .returned u ∧ RdE elZ w' u xs ∧ Alm w' A M rest v rules ∧ w.grownBy w' (some M)
set_option maxRecDepth 100000 in
set_option maxHeartbeats 4000000 in
theorem of_hit (A M : Nat) (rest : List Bool) (hr : rest.length = 7) (v : Value) (rules : List Rl) (y : Int) (w : World) (h : Alm w A M rest v rules) (a : Option Addr) (n c : Nat) (xs : List Int)
    (hu : RdE elZ w (.slice a n c) xs) (hrun : (Instr.lookup 85 (.map (some M)) (.int .i64 y) true).run Try.prog w = .ok (.tuple #[.slice a n c, .bool true]) w) : Calls Try.prog 37 #[pA A, .int .i64 y] w (OfAQ A M rest v rules xs w) := by
  have c8 := h.cell8 hr
  have HH := Lib.hid h; have HU := Lib.hid hu
  clear h hu
  go_enter Try.func37, Try.ntmps37
  go_wp2
  go_ret
  exact ⟨_, rfl, HU.out, HH.out, World.grownBy.refl _ _⟩
set_option maxRecDepth 100000 in
set_option maxHeartbeats 8000000 in
theorem of_miss (A M : Nat) (rest : List Bool) (hr : rest.length = 7) (hf : rest.all id = false) (v : Value) (rules : List Rl) (hE : rulesE rules = 0) (hl : rules.length ≤ 12) (y : Int) (h1 : 1 ≤ y) (h2 : y ≤ 9999) (w : World) (h : Alm w A M rest v rules)
    (hrun : (Instr.lookup 85 (.map (some M)) (.int .i64 y) true).run Try.prog w = .ok (.tuple #[.slice none 0 0, .bool false]) w) : Calls Try.prog 37 #[pA A, .int .i64 y] w (OfAQ A M rest v rules (hol rest rules y) w) := by
  have c8 := h.cell8 hr
  have c7 := h.cell7 hr
  have HH := Lib.hid h
  have HD := Lib.hid (fun (k : Nat) (hk : k < rules.length) w' (hb : Below w.heap.size w w') => day_any A M rest hr hf v rules rules[k] y (rulesE_all rules hE _ (List.getElem_mem hk)) w' (h.next hb) h1 h2)
  have HS := Lib.hid (days_succ rest rules y)
  obtain ⟨a, cap, rfl, g1, g2, g3⟩ := h.rd
  have H3 := Lib.hid g3
  have HBR := Lib.hid (br w)
  have HLN := Lib.hid (fun k => days_len rest (rules.take k) y)
  have HT : RowKit.Hid (hol rest rules y = cmpc (srt (days rest (rules.take rules.length) y))) := Lib.hid (by rw [List.take_length]; rfl)
  clear h g3 hE hf
  go_enter Try.func37, Try.ntmps37
  go_wp2
  go_loopw [7, 29] (fun s i wr => ∃ k : Nat, k ≤ rules.length ∧ i = .int .i64 k ∧ ROwn elZ wr w.heap.size s (days rest (rules.take k) y) ∧ Below w.heap.size w wr) (fun _ i _ => rules.length - (intOf i).toNat)
  case atStart => exact ⟨0, Nat.zero_le _, rfl, by simpa [days] using ROwn.nil _ _, HBR.out⟩
  case round =>
    obtain ⟨k, hk, rfl, hown, hbw⟩ := hrel
    have HBW := Lib.hid hbw; have HOWN := Lib.hid hown
    have hln := HLN.out k
    rw [List.length_take] at hln
    have hln2 : (days rest (rules.take k) y).length ≤ 12 := by omega
    clear hown hln
    by_cases hlt : k < rules.length
    · obtain ⟨g, off, rfl, hbl, hc⟩ := H3.out (by omega)
      obtain ⟨q0, q1, q2, q3⟩ := eRl_at hc k hlt
      have d0 := (hbw.cell (p := ⟨g, off + k * 4, none⟩) hbl).trans q0
      have d1 := (hbw.cell (p := ⟨g, off + k * 4 + 1, none⟩) hbl).trans q1
      have d2 := (hbw.cell (p := ⟨g, off + k * 4 + 2, none⟩) hbl).trans q2
      have d3 := (hbw.cell (p := ⟨g, off + k * 4 + 3, none⟩) hbl).trans q3
      have i1 : (k : Int) < (rules.length : Int) := by omega
      have i0 : (0 : Int) ≤ (k : Int) := by omega
      have HDK := Lib.hid (HD.out k hlt)
      have HSK := HS.out k hlt
      have HBA := Lib.hid (fun o => hbw.alloc (by have := hbw.size; exact this) o)
      clear hc q0 q1 q2 q3 hbw H3 HD HS HT HLN HBR hrun c8
      unfold DayR at HDK
      obtain ⟨r, hr'⟩ : ∃ r, rules[k] = r := ⟨_, rfl⟩
      rw [hr'] at d0 d1 d2 d3 HDK HSK
      clear hr'
      obtain ⟨F, hF⟩ : ∃ F, dayF rest r y = F := ⟨_, rfl⟩
      rw [hF] at HDK HSK
      clear hF
      obtain ⟨r0, r1, r2, r3⟩ := r
      obtain ⟨F1, F2⟩ := F
      simp only at d0 d1 d2 d3 HDK HSK
      obtain ⟨xs, hxs⟩ : ∃ xs, days rest (rules.take k) y = xs := ⟨_, rfl⟩
      rw [hxs] at HSK HOWN hln2
      clear hxs
      cases F2 with
      | true =>
        rw [if_pos rfl] at HSK
        have HSS := Lib.hid HSK
        clear HSK
        go_wp2_with fail
        refine (HDK.out _ (HBA.out _)).mono ?_
        rintro en w2 ⟨rfl, b2⟩
        have HB2 := Lib.hid (bt (HBA.out _) b2)
        have HO2 := Lib.hid (HOWN.out.next (bt ((br _).alloc (Nat.le_refl _) _) b2))
        clear b2 HBA
        go_wp2_with (at_builtin; refine appE elZ rfl (.tmp 41) (.tmp 43) rfl w.heap.size _ xs rfl (HO2.out.next ((br _).alloc (Nat.le_refl _) _)) _ [F1] rfl (rd_lit elZ [F1] _ _ _ _ rfl (by simp [maxLen])) (by simp only [List.length_cons, List.length_nil]; unfold maxLen; omega) (by show (xs.length + 1) * 8 ≤ _; omega) (by have := HB2.out.size; simp; omega) ?_; intro v9 w9 ho9 hb9 hf9; have HO9 := Lib.hid ho9; have HB9 := Lib.hid ((HB2.out.alloc HB2.out.size _).trans hb9); clear ho9 hb9 hf9)
        go_roundw
        case rel => exact ⟨k + 1, by omega, by first | rfl | go_num, by rw [HSS.out]; exact HO9.out, HB9.out⟩
        case measure => simp [intOf]; omega
      | false =>
        rw [if_neg (by simp), List.append_nil] at HSK
        have HSS := Lib.hid HSK
        clear HSK
        go_wp2_with fail
        refine (HDK.out _ (HBA.out _)).mono ?_
        rintro en w2 ⟨rfl, b2⟩
        have HB2 := Lib.hid (bt (HBA.out _) b2)
        have HO2 := Lib.hid (HOWN.out.next (bt ((br _).alloc (Nat.le_refl _) _) b2))
        clear b2 HBA
        go_wp2
        go_roundw
        case rel => exact ⟨k + 1, by omega, by first | rfl | go_num, by rw [HSS.out]; exact HO2.out, HB2.out⟩
        case measure => simp [intOf]; omega
    · have hkk : k = rules.length := by omega
      subst hkk
      have HTT := HT.out
      clear HD HS H3 HLN HBR HT hbw hrun c8 c7 hk hlt
      obtain ⟨xs, hxs⟩ : ∃ xs, days rest (rules.take rules.length) y = xs := ⟨_, rfl⟩
      rw [hxs] at HTT HOWN hln2
      clear hxs
      rw [HTT]
      have HTE := Lib.hid HTT
      clear HTT
      have hs12 : (srt xs).length ≤ 1000 := by rw [srt_len]; omega
      go_wp2_with fail
      refine (sort_own w.heap.size _ xs _ HOWN.out (by omega)).mono ?_
      rintro en w2 ⟨rfl, o2, b2⟩
      have HB2 := Lib.hid (HBW.out.trans b2)
      have HO2 := Lib.hid o2
      clear b2 o2
      go_wp2_with fail
      refine (comp_own w.heap.size _ (srt xs) _ HO2.out hs12).mono ?_
      rintro en w3 ⟨u, rfl, o3, b3⟩
      have hb3 := HB2.out.trans b3
      have hal := HH.out.next hb3
      have c8 := hal.cell8 hr
      obtain ⟨w4, hst, he4, hg4⟩ := ents_store hal.ents (y := y) (by omega) (by omega) (u := u) (by rw [HTE.out]; exact o3.rd)
      have HF : RowKit.Hid (RdE elZ w4 u (cmpc (srt xs)) ∧ Alm w4 A M rest (.slice a rules.length cap) rules ∧ w.grownBy w4 (some M)) := Lib.hid (by
        obtain ⟨es, clock, hM, _⟩ := hal.ents.ent
        refine ⟨rd_turned o3.rd (fun _ => by simp [eI]) hM hg4, hal.grown hg4 he4, ?_⟩
        exact ⟨hg4.os.trans hb3.os, hg4.tape.trans hb3.tape, hg4.output.trans hb3.output, Nat.le_trans hb3.size hg4.size, fun i hi hne => (hg4.block i (Nat.lt_of_lt_of_le hi hb3.size) hne).trans (hb3.block i hi)⟩)
      clear o3 b3 hb3 hal he4 hg4 HO2 HB2 HOWN HBW HH
      go_wp2
      go_ret
      exact ⟨_, rfl, by rw [HTE.out]; exact HF.out.1, HF.out.2⟩
theorem of_any (A M : Nat) (rest : List Bool) (hr : rest.length = 7) (hf : rest.all id = false) (v : Value) (rules : List Rl) (hE : rulesE rules = 0) (hl : rules.length ≤ 12) (y : Int) (h1 : 1 ≤ y) (h2 : y ≤ 9999) (w : World) (h : Alm w A M rest v rules) : Calls Try.prog 37 #[pA A, .int .i64 y] w (OfAQ A M rest v rules (hol rest rules y) w) := by
  rcases ents_look h.ents (y := y) (by omega) (by omega) with hrun | ⟨u, hrun, hu⟩
  · exact of_miss A M rest hr hf v rules hE hl y h1 h2 w h hrun
  · obtain ⟨a, cap, rfl, g1, g2, g3⟩ := hu
    exact of_hit A M rest hr v rules y w h a _ cap _ ⟨a, cap, rfl, g1, g2, g3⟩ hrun
end Wk
end Go.Proofs.Ytjicpflgkhdppaa
/- Days of work: is a day one; the next one. -/
set_option linter.unusedVariables false
namespace Go.Proofs.Ytjicpflgkhdppaa
open Go.RowKit
namespace Wk
open Dt
theorem gtr {a b c : World} {r : Option Nat} (h : a.grownBy b r) (k : b.grownBy c r) : a.grownBy c r :=
  ⟨k.os.trans h.os, k.tape.trans h.tape, k.output.trans h.output, Nat.le_trans h.size k.size, fun i hi hne => (k.block i (Nat.lt_of_lt_of_le hi h.size) hne).trans (h.block i hi hne)⟩
theorem bg {a b : World} {r : Option Nat} (h : Below a.heap.size a b) : a.grownBy b r := ⟨h.os, h.tape, h.output, h.size, fun i hi _ => h.block i hi⟩
theorem bbg {a b : World} {B M : Nat} (h : Below B a b) {c : World} (g : b.grownBy c (some M)) (hB : B ≤ a.heap.size) (hM : B ≤ M) : Below B a c := h.grown g (Nat.le_trans hB h.size) (fun k hk => by cases hk; exact hM)
structure Cal (rest : List Bool) (rules : List Rl) : Prop where
  len : rest.length = 7
  some_ : rest.all id = false
  ok : rulesE rules = 0
  many : rules.length ≤ 12
theorem cal_of {rest : List Bool} {rules : List Rl} (hr : rest.length = 7) (h : calE rest rules = 0) : Cal rest rules := by
  unfold calE at h
  by_cases c : rest.all id = true
  · rw [if_pos c] at h; omega
  · rw [if_neg c] at h
    by_cases c2 : 12 < rules.length
    · rw [if_pos c2] at h; omega
    · rw [if_neg c2] at h
      exact ⟨hr, by simpa using c, h, by omega⟩
def inB (n : Int) : Bool := decide (1 ≤ n ∧ n ≤ 3651693)
theorem in_any (n : Int) (w : World) : Calls Try.prog 45 #[.int .i64 n] w fun e w' => e = .returned (.bool (inB n)) ∧ w = w' := by
  have HB : RowKit.Hid (inB n = (decide (1 ≤ n) && decide (n ≤ 3651693))) := Lib.hid (by unfold inB; simp)
  by_cases h1 : 1 ≤ n
  · by_cases h2 : n ≤ 3651693
    · go_enter Try.func45, Try.ntmps45
      go_wp2
      go_ret
      exact ⟨by rw [HB.out]; simp [h1, h2], rfl⟩
    · go_enter Try.func45, Try.ntmps45
      go_wp2
      go_ret
      exact ⟨by rw [HB.out]; simp [h1, h2], rfl⟩
  · go_enter Try.func45, Try.ntmps45
    go_wp2
    go_ret
    exact ⟨by rw [HB.out, decide_eq_false (show ¬ 1 ≤ n by omega)]; rfl, rfl⟩
theorem idx2_0 (a b : Int) (w : World) : (Instr.index 95 (.agg #[.int .i64 a, .int .i64 b]) (.int .i64 0)).run Try.prog w = .ok (.int .i64 a) w := by kernel_rfl
theorem idx2_1 (a b : Int) (w : World) : (Instr.index 95 (.agg #[.int .i64 a, .int .i64 b]) (.int .i64 1)).run Try.prog w = .ok (.int .i64 b) w := by kernel_rfl
/-- what a method of the almanac leaves -/
def AlmQ (A M : Nat) (rest : List Bool) (v : Value) (rules : List Rl) (r : Value) (w : World) (e : Ending) (w' : World) : Prop := e = .returned r ∧ Alm w' A M rest v rules ∧ w.grownBy w' (some M)
theorem hol_has (rest : List Bool) (rules : List Rl) (y n : Int) : (hol rest rules y).contains n = (days rest rules y).contains n := by
  rw [Bool.eq_iff_iff]; simp [hol_mem]
set_option maxRecDepth 100000 in
set_option maxHeartbeats 4000000 in
theorem is_rest (A M : Nat) (rest : List Bool) (v : Value) (rules : List Rl) (hc : Cal rest rules) (n : Int) (h1 : 1 ≤ n) (h2 : n ≤ 3651693) (w : World) (h : Alm w A M rest v rules) (hq : isRest rest n = true) : Calls Try.prog 47 #[pA A, .int .i64 n] w (AlmQ A M rest v rules (.bool false) w) := by
  have C1 : RowKit.Hid (∀ w', Below w.heap.size w w' → Calls Try.prog 68 #[pA A, .int .i64 n] w' fun e w'' => e = .returned (.bool true) ∧ ∃ m, w'' = w'.drewN m) := Lib.hid (fun w' hb => by have := rest_any A M rest hc.len v rules n w' (h.next hb) h1 (by omega); rwa [hq] at this)
  have HH := Lib.hid h
  clear h hc hq
  go_enter Try.func47, Try.ntmps47
  go_wp2_with fail
  refine (C1.out _ (br _)).mono ?_
  rintro en w1 ⟨rfl, m, rfl⟩
  go_wp2
  go_ret
  exact ⟨rfl, HH.out.dr _, bg (bn (br _) _)⟩
set_option maxRecDepth 100000 in
set_option maxHeartbeats 4000000 in
theorem is_core (A M : Nat) (rest : List Bool) (v : Value) (rules : List Rl) (hc : Cal rest rules) (n Y m d : Int) (w : World) (h : Alm w A M rest v rules) (h1 : 1 ≤ Y) (h2 : Y ≤ 9999) (h3 : 1 ≤ n) (h4 : n ≤ 3651693)
    (C1 : RowKit.Hid (∀ w', Below w.heap.size w w' → Calls Try.prog 68 #[pA A, .int .i64 n] w' fun e w'' => e = .returned (.bool false) ∧ ∃ m, w'' = w'.drewN m))
    (C2 : RowKit.Hid (∀ w, Calls Try.prog 51 #[.int .i64 n] w fun e w' => e = .returned (.agg #[.int .i64 Y, .int .i64 m, .int .i64 d]) ∧ Below w.heap.size w w'))
    (b0 b1 : Bool) (H0 : RowKit.Hid (1 ≤ Y - 1 → (hol rest rules (Y - 1)).contains n = b0)) (H1 : RowKit.Hid ((hol rest rules Y).contains n = b1)) (H00 : ¬ 1 ≤ Y - 1 → b0 = false) :
    Calls Try.prog 47 #[pA A, .int .i64 n] w (AlmQ A M rest v rules (.bool (!b0 && !b1)) w) := by
  have CO : RowKit.Hid (∀ y w, 1 ≤ y → y ≤ 9999 → Alm w A M rest v rules → Calls Try.prog 37 #[pA A, .int .i64 y] w (OfAQ A M rest v rules (hol rest rules y) w)) := Lib.hid (fun y w g1 g2 g => of_any A M rest hc.len hc.some_ v rules hc.ok hc.many y g1 g2 w g)
  have HL : RowKit.Hid (∀ y, (hol rest rules y).length ≤ 1000) := Lib.hid (fun y => by have a := hol_len rest rules y; have b := hc.many; omega)
  have HI : RowKit.Hid (∀ y, (hol rest rules y).Pairwise (· ≤ ·)) := Lib.hid (fun y => (hol_inc rest rules y).imp (fun h => by omega))
  have fld := fun w => fld0 Y m d w
  have HH := Lib.hid h
  clear h hc
  go_enter Try.func47, Try.ntmps47
  go_wp2_with fail
  refine (C1.out _ (br _)).mono ?_
  rintro en w1 ⟨rfl, mm, rfl⟩
  go_wp2_with fail
  refine (C2.out _).mono ?_
  rintro en w2 ⟨rfl, b2⟩
  have HB2 := Lib.hid (bt (bn (br w) mm) b2)
  have HA2 := Lib.hid (HH.out.next HB2.out)
  clear b2 HH
  have i0 := fun w => idx2_0 (Y - 1) Y w
  have i1 := fun w => idx2_1 (Y - 1) Y w
  go_wp2
  refine wp_loop_rounds 3 ?_
  rw [rounds_succ]
  by_cases hY : 1 ≤ Y - 1
  · have HH0 := Lib.hid (H0.out hY)
    have hy1 : ¬ Y - 1 < 1 := by omega
    clear H0 H00
    go_wp2_with fail
    refine (CO.out (Y - 1) _ hY (by omega) HA2.out).mono ?_
    rintro en w3 ⟨u, rfl, hu3, ha3, hg3⟩
    have HG3 := Lib.hid (gtr (bg HB2.out) hg3)
    have HA3 := Lib.hid ha3
    have C4 := Lib.hid (srch_rd u _ n w3 hu3 (HL.out _) (HI.out _))
    rw [HH0.out] at C4
    clear hu3 ha3 hg3
    cases b0 with
    | true =>
      go_wp2_with fail
      refine C4.out.mono ?_
      rintro en w4 ⟨i4, rfl, b4⟩
      have HA4 := Lib.hid (HA3.out.next b4)
      have HG4 := Lib.hid (gtr HG3.out (bg b4))
      clear b4
      go_wp2
      go_ret
      exact ⟨by first | rfl | (simp; done), HA4.out, HG4.out⟩
    | false =>
      go_wp2_with fail
      refine C4.out.mono ?_
      rintro en w4 ⟨i4, rfl, b4⟩
      have HA4 := Lib.hid (HA3.out.next b4)
      have HG4 := Lib.hid (gtr HG3.out (bg b4))
      clear b4
      go_wp2
      rw [rounds_succ]
      have hy2 : ¬ Y < 1 := by omega
      go_wp2_with fail
      refine (CO.out Y _ h1 h2 HA4.out).mono ?_
      rintro en w5 ⟨u5, rfl, hu5, ha5, hg5⟩
      have HG5 := Lib.hid (gtr HG4.out hg5)
      have HA5 := Lib.hid ha5
      have C6 := Lib.hid (srch_rd u5 _ n w5 hu5 (HL.out _) (HI.out _))
      rw [H1.out] at C6
      clear hu5 ha5 hg5
      cases b1 with
      | true =>
        go_wp2_with fail
        refine C6.out.mono ?_
        rintro en w6 ⟨i6, rfl, b6⟩
        have HA6 := Lib.hid (HA5.out.next b6)
        have HG6 := Lib.hid (gtr HG5.out (bg b6))
        clear b6
        go_wp2
        go_ret
        exact ⟨by first | rfl | (simp; done), HA6.out, HG6.out⟩
      | false =>
        go_wp2_with fail
        refine C6.out.mono ?_
        rintro en w6 ⟨i6, rfl, b6⟩
        have HA6 := Lib.hid (HA5.out.next b6)
        have HG6 := Lib.hid (gtr HG5.out (bg b6))
        clear b6
        go_wp2
        rw [rounds_succ]
        go_wp2
        go_ret
        exact ⟨by first | rfl | (simp; done), HA6.out, HG6.out⟩
  · have hb0 := H00 (by omega)
    subst hb0
    have hy1 : Y - 1 < 1 := by omega
    clear H0 H00
    go_wp2
    rw [rounds_succ]
    have hy2 : ¬ Y < 1 := by omega
    go_wp2_with fail
    refine (CO.out Y _ h1 h2 HA2.out).mono ?_
    rintro en w5 ⟨u5, rfl, hu5, ha5, hg5⟩
    have HG5 := Lib.hid (gtr (bg HB2.out) hg5)
    have HA5 := Lib.hid ha5
    have C6 := Lib.hid (srch_rd u5 _ n w5 hu5 (HL.out _) (HI.out _))
    rw [H1.out] at C6
    clear hu5 ha5 hg5
    cases b1 with
    | true =>
      go_wp2_with fail
      refine C6.out.mono ?_
      rintro en w6 ⟨i6, rfl, b6⟩
      have HA6 := Lib.hid (HA5.out.next b6)
      have HG6 := Lib.hid (gtr HG5.out (bg b6))
      clear b6
      go_wp2
      go_ret
      exact ⟨by first | rfl | (simp; done), HA6.out, HG6.out⟩
    | false =>
      go_wp2_with fail
      refine C6.out.mono ?_
      rintro en w6 ⟨i6, rfl, b6⟩
      have HA6 := Lib.hid (HA5.out.next b6)
      have HG6 := Lib.hid (gtr HG5.out (bg b6))
      clear b6
      go_wp2
      rw [rounds_succ]
      go_wp2
      go_ret
      exact ⟨by first | rfl | (simp; done), HA6.out, HG6.out⟩
theorem is_any (A M : Nat) (rest : List Bool) (v : Value) (rules : List Rl) (hc : Cal rest rules) (n : Int) (h1 : 1 ≤ n) (h2 : n ≤ 3651693) (w : World) (h : Alm w A M rest v rules) : Calls Try.prog 47 #[pA A, .int .i64 n] w (AlmQ A M rest v rules (.bool (isW rest rules n)) w) := by
  by_cases hq : isRest rest n = true
  · have e : isW rest rules n = false := by unfold isW; rw [hq]; rfl
    rw [e]
    exact is_rest A M rest v rules hc n h1 h2 w h hq
  · have hq' : isRest rest n = false := by simpa using hq
    obtain ⟨y1, y2, _, _⟩ := yearOf_bd n h1 (by omega)
    have hx : aD (dateOf n) = .agg #[.int .i64 (yearOf n), .int .i64 (dateOf n).2.1, .int .i64 (dateOf n).2.2] := rfl
    have e : isW rest rules n = (!isHol rest rules (yearOf n - 1) n && !isHol rest rules (yearOf n) n) := by
      unfold isW; rw [hq']; cases isHol rest rules (yearOf n - 1) n <;> cases isHol rest rules (yearOf n) n <;> rfl
    rw [e]
    refine is_core A M rest v rules hc n (yearOf n) (dateOf n).2.1 (dateOf n).2.2 w h y1 y2 h1 h2 (Lib.hid fun w' hb => ?_) (Lib.hid fun w => ?_) _ _ (Lib.hid fun hy => ?_) (Lib.hid ?_) (fun hy => ?_)
    · have := rest_any A M rest hc.len v rules n w' (h.next hb) h1 (by omega)
      rwa [hq'] at this
    · have := rawOf_any n w h1 (by omega)
      unfold RawOfQ at this
      rwa [hx] at this
    · rw [hol_has]; unfold isHol; rw [decide_eq_true hy]; rfl
    · rw [hol_has]; unfold isHol; rw [decide_eq_true y1]; rfl
    · unfold isHol; rw [decide_eq_false hy]; rfl
end Wk
end Go.Proofs.Ytjicpflgkhdppaa
/- Days of work: asked, next, and the almanac's making. -/
set_option linter.unusedVariables false
namespace Go.Proofs.Ytjicpflgkhdppaa
open Go.RowKit
namespace Wk
open Dt
def isF (rest : List Bool) (rules : List Rl) (n : Int) : Bool × Int := if inB n = true then (isW rest rules n, 0) else (false, 3)
def nx (rest : List Bool) (rules : List Rl) : Nat → Int → Int × Int
  | 0, n => (0, 3)
  | k + 1, n => if isW rest rules n = true then (n, 0) else nx rest rules k (n + 1)
def nextF (rest : List Bool) (rules : List Rl) (n : Int) : Int × Int := if inB n = true then nx rest rules (3651694 - n).toNat n else (0, 3)
theorem inB_iff (n : Int) : inB n = true ↔ 1 ≤ n ∧ n ≤ 3651693 := by unfold inB; simp
theorem nextF_step (rest : List Bool) (rules : List Rl) (n : Int) (h : inB n = true) : nextF rest rules n = if isW rest rules n = true then (n, 0) else nextF rest rules (n + 1) := by
  obtain ⟨h1, h2⟩ := (inB_iff n).1 h
  have e : nextF rest rules n = nx rest rules (3651694 - n).toNat n := by unfold nextF; rw [if_pos h]
  rw [e]
  obtain ⟨k, hk⟩ : ∃ k, (3651694 - n).toNat = k + 1 := ⟨(3651694 - n).toNat - 1, by omega⟩
  rw [hk]
  show (if isW rest rules n = true then (n, 0) else nx rest rules k (n + 1)) = _
  congr 1
  unfold nextF
  by_cases c : inB (n + 1) = true
  · rw [if_pos c]; congr 1; omega
  · rw [if_neg c]
    have : k = 0 := by
      have := mt (inB_iff (n + 1)).2 c
      omega
    subst this; rfl
theorem nextF_out (rest : List Bool) (rules : List Rl) (n : Int) (h : inB n = false) : nextF rest rules n = (0, 3) := by unfold nextF; rw [if_neg (by simp [h])]
theorem nextF_in (rest : List Bool) (rules : List Rl) (n : Int) : nextF rest rules n = (0, 3) ∨ ∃ m, nextF rest rules n = (m, 0) ∧ n ≤ m ∧ inB m = true ∧ isW rest rules m = true ∧ ∀ k, n ≤ k → k < m → inB k = true ∧ isW rest rules k = false := by
  have gen : ∀ (f : Nat) (n : Int), (3651694 - n).toNat ≤ f → nextF rest rules n = (0, 3) ∨ ∃ m, nextF rest rules n = (m, 0) ∧ n ≤ m ∧ inB m = true ∧ isW rest rules m = true ∧ ∀ k, n ≤ k → k < m → inB k = true ∧ isW rest rules k = false := by
    intro f
    induction f with
    | zero =>
      intro n hf
      left
      refine nextF_out _ _ _ ?_
      rw [Bool.eq_false_iff]; intro h
      have := (inB_iff n).1 h; omega
    | succ f ih =>
      intro n hf
      by_cases h : inB n = true
      · rw [nextF_step _ _ _ h]
        by_cases hw : isW rest rules n = true
        · rw [if_pos hw]
          exact .inr ⟨n, rfl, Int.le_refl _, h, hw, fun k h1 h2 => by omega⟩
        · rw [if_neg hw]
          have := (inB_iff n).1 h
          rcases ih (n + 1) (by omega) with h3 | ⟨m, h3, h4, h5, h6, h7⟩
          · exact .inl h3
          · refine .inr ⟨m, h3, by omega, h5, h6, fun k h8 h9 => ?_⟩
            by_cases e : k = n
            · subst e; exact ⟨h, by simpa using hw⟩
            · exact h7 k (by omega) h9
      · exact .inl (nextF_out _ _ _ (by simpa using h))
  exact gen _ n (Nat.le_refl _)
section
variable {w w' : World} {A M : Nat} {rest : List Bool} {v : Value} {rules : List Rl}
set_option maxRecDepth 100000 in
set_option maxHeartbeats 4000000 in
theorem asked_any (A M : Nat) (rest : List Bool) (v : Value) (rules : List Rl) (hc : Cal rest rules) (n : Int) (w : World) (h : Alm w A M rest v rules) : Calls Try.prog 48 #[pA A, .int .i64 n] w (AlmQ A M rest v rules (.tuple #[.bool (isF rest rules n).1, .int .i64 (isF rest rules n).2]) w) := by
  have CI : RowKit.Hid (∀ w, Calls Try.prog 45 #[.int .i64 n] w fun e w' => e = .returned (.bool (inB n)) ∧ w = w') := Lib.hid (in_any n)
  have HH := Lib.hid h
  by_cases hb : inB n = true
  · have e : isF rest rules n = (isW rest rules n, 0) := by unfold isF; rw [if_pos hb]
    obtain ⟨h1, h2⟩ := (inB_iff n).1 hb
    rw [e]
    rw [hb] at CI
    have C2 : RowKit.Hid (Calls Try.prog 47 #[pA A, .int .i64 n] w (AlmQ A M rest v rules (.bool (isW rest rules n)) w)) := Lib.hid (is_any A M rest v rules hc n h1 h2 w h)
    obtain ⟨b, hb'⟩ : ∃ b, isW rest rules n = b := ⟨_, rfl⟩
    rw [hb'] at C2
    simp only [hb']
    clear hb' e hb h hc
    go_enter Try.func48, Try.ntmps48
    go_wp2_with fail
    refine (CI.out _).mono ?_
    rintro en w1 ⟨rfl, e1⟩
    subst e1
    go_wp2_with fail
    refine C2.out.mono ?_
    rintro en w2 ⟨rfl, ha, hg⟩
    go_wp2
    go_ret2
    exact ⟨rfl, ha, hg⟩
  · have hb' : inB n = false := by simpa using hb
    have e : isF rest rules n = (false, 3) := by unfold isF; rw [if_neg hb]
    rw [e]
    rw [hb'] at CI
    clear e hb h hc hb'
    go_enter Try.func48, Try.ntmps48
    go_wp2_with fail
    refine (CI.out _).mono ?_
    rintro en w1 ⟨rfl, e1⟩
    subst e1
    go_wp2
    go_ret2
    exact ⟨rfl, HH.out, World.grownBy.refl _ _⟩
set_option maxRecDepth 100000 in
set_option maxHeartbeats 4000000 in
theorem next_any (A M : Nat) (rest : List Bool) (v : Value) (rules : List Rl) (hc : Cal rest rules) (n : Int) (w : World) (h : Alm w A M rest v rules) : Calls Try.prog 46 #[pA A, .int .i64 n] w (AlmQ A M rest v rules (.tuple #[.int .i64 (nextF rest rules n).1, .int .i64 (nextF rest rules n).2]) w) := by
  have CI : RowKit.Hid (∀ n w, Alm w A M rest v rules → Calls Try.prog 48 #[pA A, .int .i64 n] w (AlmQ A M rest v rules (.tuple #[.bool (isF rest rules n).1, .int .i64 (isF rest rules n).2]) w)) := Lib.hid (fun n w h => asked_any A M rest v rules hc n w h)
  have HH := Lib.hid h
  have HG := Lib.hid (World.grownBy.refl w (some M))
  have HS := Lib.hid (nextF_step rest rules)
  have HO := Lib.hid (nextF_out rest rules)
  have HF : RowKit.Hid (∀ n, inB n = true → isF rest rules n = (isW rest rules n, 0)) := Lib.hid (fun n hb => by unfold isF; rw [if_pos hb])
  have HF2 : RowKit.Hid (∀ n, inB n = false → isF rest rules n = (false, 3)) := Lib.hid (fun n hb => by unfold isF; rw [if_neg (by simp [hb])])
  obtain ⟨Z, hZ⟩ : ∃ Z, nextF rest rules n = Z := ⟨_, rfl⟩
  rw [hZ]
  have HZ := Lib.hid hZ
  clear h hc hZ
  go_enter Try.func46, Try.ntmps46
  go_wp2
  go_loopw [1] (fun i wr => ∃ k : Int, i = .int .i64 k ∧ nextF rest rules k = Z ∧ Alm wr A M rest v rules ∧ w.grownBy wr (some M)) (fun i _ => (3651694 - intOf i).toNat)
  case atStart => exact ⟨n, rfl, HZ.out, HH.out, HG.out⟩
  case round =>
    obtain ⟨k, rfl, hk, ha, hg⟩ := hrel
    have HG2 := Lib.hid hg
    have CK := Lib.hid (CI.out k wr ha)
    by_cases hb : inB k = true
    · obtain ⟨k1, k2⟩ := (inB_iff k).1 hb
      rw [HS.out k hb] at hk
      rw [HF.out k hb] at CK
      simp only at CK
      clear HZ HH HG CI HF HF2 HS HO ha hg hb
      obtain ⟨b, hb'⟩ : ∃ b, isW rest rules k = b := ⟨_, rfl⟩
      rw [hb'] at CK hk
      clear hb'
      cases b with
      | true =>
        rw [if_pos rfl] at hk
        have HK := Lib.hid hk
        clear hk
        go_wp2_with fail
        refine CK.out.mono ?_
        rintro en w2 ⟨rfl, ha2, hg2⟩
        have HA2 := Lib.hid ha2
        have HG3 := Lib.hid (gtr HG2.out hg2)
        clear ha2 hg2
        go_wp2
        go_ret2
        exact ⟨by rw [← HK.out]; rfl, HA2.out, HG3.out⟩
      | false =>
        rw [if_neg (by simp)] at hk
        have HK := Lib.hid hk
        clear hk
        go_wp2_with fail
        refine CK.out.mono ?_
        rintro en w2 ⟨rfl, ha2, hg2⟩
        have HA2 := Lib.hid ha2
        have HG3 := Lib.hid (gtr HG2.out hg2)
        clear ha2 hg2
        go_wp2
        go_roundw
        case rel => exact ⟨k + 1, by first | rfl | go_num, HK.out, HA2.out, HG3.out⟩
        case measure => simp [intOf]; omega
    · have hb' : inB k = false := by simpa using hb
      rw [HO.out k hb'] at hk
      rw [HF2.out k hb'] at CK
      simp only at CK
      have HK := Lib.hid hk
      clear HZ HH HG CI HF HF2 HS HO ha hg hb hk hb'
      go_wp2_with fail
      refine CK.out.mono ?_
      rintro en w2 ⟨rfl, ha2, hg2⟩
      have HA2 := Lib.hid ha2
      have HG3 := Lib.hid (gtr HG2.out hg2)
      clear ha2 hg2
      go_wp2
      go_ret2
      exact ⟨by rw [← HK.out]; rfl, HA2.out, HG3.out⟩
end
def MadeQ (rest : List Bool) (v : Value) (rules : List Rl) (w : World) (e : Ending) (w' : World) : Prop := ∃ A M, e = .returned (pA A) ∧ Alm w' A M rest v rules ∧ Below w.heap.size w w' ∧ w.heap.size ≤ M
set_option maxRecDepth 100000 in
set_option maxHeartbeats 4000000 in
theorem made_any (rest : List Bool) (hr : rest.length = 7) (v : Value) (rules : List Rl) (w : World) (h : RdE elRl w v rules) : Calls Try.prog 36 #[cV rest v] w (MadeQ rest v rules w) := by
  have HRD := Lib.hid h
  obtain ⟨a, cap, rfl, h1, h2, h3⟩ := h
  clear h3
  obtain ⟨b0, b1, b2, b3, b4, b5, b6, rfl⟩ := len7 hr
  show Calls Try.prog 36 #[.agg #[.bool b0, .bool b1, .bool b2, .bool b3, .bool b4, .bool b5, .bool b6, .slice a rules.length cap]] w (MadeQ _ _ _ w)
  have hmm := @run_makeMap Try.prog
  have HB := Lib.hid (((br w).alloc (Nat.le_refl _) (.cells #[.bool b0, .bool b1, .bool b2, .bool b3, .bool b4, .bool b5, .bool b6, .slice a rules.length cap] 25)).alloc (by simp) (.map #[] 0))
  go_enter Try.func36, Try.ntmps36
  go_wp2
  go_ret
  have hm : (((w.alloc (.cells #[.bool b0, .bool b1, .bool b2, .bool b3, .bool b4, .bool b5, .bool b6, .slice a rules.length cap] 25)).alloc (.map #[] 0)).alloc (.cells (almB [b0, b1, b2, b3, b4, b5, b6] (.slice a rules.length cap) (w.heap.size + 1)).toArray 87)).heap[w.heap.size + 1]? = some (.map #[] 0) := by
    rw [Below.heap_alloc _ _ _ (by simp)]
    have := (MapKept.heap_alloc (w.alloc (.cells #[.bool b0, .bool b1, .bool b2, .bool b3, .bool b4, .bool b5, .bool b6, .slice a rules.length cap] 25)) (.map #[] 0)).1
    simpa using this
  refine ⟨w.heap.size + 2, w.heap.size + 1, by first | rfl | (simp; done), ⟨?_, ?_, ⟨#[], 0, hm, ⟨by simp, MapKept.stamped_empty 0, by simp⟩, by simp⟩⟩, HB.out.alloc (by simp; omega) _, by omega⟩
  · have := Box.new ((w.alloc (.cells #[.bool b0, .bool b1, .bool b2, .bool b3, .bool b4, .bool b5, .bool b6, .slice a rules.length cap] 25)).alloc (.map #[] 0)) 87 (almB [b0, b1, b2, b3, b4, b5, b6] (.slice a rules.length cap) (w.heap.size + 1))
    have e : ((w.alloc (.cells #[.bool b0, .bool b1, .bool b2, .bool b3, .bool b4, .bool b5, .bool b6, .slice a rules.length cap] 25)).alloc (.map #[] 0)).heap.size = w.heap.size + 2 := by simp
    rw [e] at this
    exact this
  · exact HRD.out.below (HB.out.alloc (by simp; omega) _)
end Wk
end Go.Proofs.Ytjicpflgkhdppaa
