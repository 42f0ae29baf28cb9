/- Days of work: a rule's day, in the document. -/
import Derived.Test.YtjicpflgkhdppaaWorkTop
import Derived.Deep.RegionHeld3
set_option linter.unusedSimpArgs false
set_option linter.unusedVariables false
namespace Go.Proofs.Ytjicpflgkhdppaa
open Go.RowKit
namespace Wk
open Dt
/-- a rule's day; 0: it has none -/
def ruleN (rest : List Bool) (r : Rl) (y : Int) : Int := (ruleD rest r y).getD 0
/-- of the first k days of a month m of them were the weekday, up to D; F: the last of these -/
def NthI (N r0 D : Int) (k mm F : Int) : Prop := 0 ≤ mm ∧ mm ≤ D ∧ (mm = (k + 6 - r0) / 7 ∨ (mm = D ∧ D ≤ (k + 6 - r0) / 7)) ∧ (mm = 0 → F = 0) ∧ (0 < mm → F = N + r0 + 7 * (mm - 1))
theorem nth_0 (N x D : Int) (hD : 1 ≤ D) (h1 : 1 ≤ x) (h2 : x ≤ 7) : NthI N ((x - wd N + 7) % 7) D 0 0 0 := by
  unfold NthI wd; omega
theorem nth_no {N x D k mm F : Int} (h1 : 1 ≤ x) (h2 : x ≤ 7) (hk : 0 ≤ k) (h : NthI N ((x - wd N + 7) % 7) D k mm F) (hw : wd (N + k) ≠ x) : NthI N ((x - wd N + 7) % 7) D (k + 1) mm F := by
  unfold NthI wd at *
  refine ⟨h.1, h.2.1, ?_, h.2.2.2.1, h.2.2.2.2⟩
  omega
theorem nth_yes {N x D k mm F : Int} (h1 : 1 ≤ x) (h2 : x ≤ 7) (hk : 0 ≤ k) (h : NthI N ((x - wd N + 7) % 7) D k mm F) (hw : wd (N + k) = x) (hm : mm < D) : NthI N ((x - wd N + 7) % 7) D (k + 1) (mm + 1) (N + k) := by
  unfold NthI wd at *
  refine ⟨by omega, by omega, ?_, by omega, ?_⟩
  · omega
  · intro _; omega
theorem nth_full {N x D k mm F : Int} (h1 : 1 ≤ x) (h2 : x ≤ 7) (hk : 0 ≤ k) (h : NthI N ((x - wd N + 7) % 7) D k mm F) (hm : ¬ mm < D) : NthI N ((x - wd N + 7) % 7) D (k + 1) mm F := by
  unfold NthI at *
  refine ⟨h.1, h.2.1, ?_, h.2.2.2.1, h.2.2.2.2⟩
  have := h.2.1
  have := h.2.2.1
  omega
theorem nth_end {N x D L mm F : Int} (h1 : 1 ≤ x) (h2 : x ≤ 7) (hD : 1 ≤ D) (hD2 : D ≤ 5) (hL : 28 ≤ L ∧ L ≤ 31) (h : NthI N ((x - wd N + 7) % 7) D L mm F) :
    F = if N + L ≤ N + (x - wd N + 7) % 7 + 7 * (D - 1) then N + (x - wd N + 7) % 7 + 7 * (D - 1) - 7 else N + (x - wd N + 7) % 7 + 7 * (D - 1) := by
  unfold NthI at h
  have hr : 0 ≤ (x - wd N + 7) % 7 ∧ (x - wd N + 7) % 7 ≤ 6 := by omega
  generalize (x - wd N + 7) % 7 = r0 at *
  split <;> omega
abbrev calO (b0 b1 b2 b3 b4 b5 b6 : Bool) (v : Value) : Obj := .cells #[.bool b0, .bool b1, .bool b2, .bool b3, .bool b4, .bool b5, .bool b6, v] 25
abbrev rlO (k m d x : Int) : Obj := .cells #[.int .i64 k, .int .i64 m, .int .i64 d, .int .i64 x] 72
theorem two_box (w : World) (b0 b1 b2 b3 b4 b5 b6 : Bool) (v : Value) (k m d x : Int) : Box ((w.alloc (calO b0 b1 b2 b3 b4 b5 b6 v)).alloc (rlO k m d x)) w.heap.size 25 (calB b0 b1 b2 b3 b4 b5 b6 v) ∧ Box ((w.alloc (calO b0 b1 b2 b3 b4 b5 b6 v)).alloc (rlO k m d x)) (w.heap.size + 1) 72 [.int .i64 k, .int .i64 m, .int .i64 d, .int .i64 x] ∧ Below w.heap.size w ((w.alloc (calO b0 b1 b2 b3 b4 b5 b6 v)).alloc (rlO k m d x)) := by
  refine ⟨(Box.new w 25 (calB b0 b1 b2 b3 b4 b5 b6 v)).alloc _, ?_, ((br w).alloc (Nat.le_refl _) _).alloc (by simp) _⟩
  have := Box.new (w.alloc (calO b0 b1 b2 b3 b4 b5 b6 v)) 72 [.int .i64 k, .int .i64 m, .int .i64 d, .int .i64 x]
  rwa [asz] at this
theorem cal_cell {b0 b1 b2 b3 b4 b5 b6 : Bool} {v : Value} {w : World} {b : Nat} {t : TypeId} (h : Box w b t (calB b0 b1 b2 b3 b4 b5 b6 v)) (k : Nat) (hk : k < 7) : w.cell? ⟨b, k, none⟩ = some (.bool ([b0, b1, b2, b3, b4, b5, b6].getD k false)) := by
  rw [h.cell]
  match k, hk with
  | 0, _ | 1, _ | 2, _ | 3, _ | 4, _ | 5, _ | 6, _ => rfl
set_option maxRecDepth 100000 in
set_option maxHeartbeats 4000000 in
theorem dayR_1 (rest : List Bool) (hr : rest.length = 7) (hf : rest.all id = false) (v : Value) (rules : List Rl) (m d x y : Int) (hE : ruleE (1, m, d, x) = 0) (w : World) (h : RdE elRl w v rules) (h1 : 1 ≤ y) (h2 : y ≤ 9999) :
    Calls Try.prog 64 #[cV rest v, rV 1 m d x, .int .i64 y] w (RetB (.int .i64 (ruleN rest (1, m, d, x) y)) w) := by
  have hd : 1 ≤ d ∧ d ≤ len0 2001 m ∧ x = 0 := by
    unfold ruleE at hE
    simp only at hE
    rw [if_pos trivial] at hE
    by_cases c : d < 1 ∨ len0 2001 m < d
    · rw [if_pos c] at hE; omega
    · rw [if_neg c] at hE
      refine ⟨by omega, by omega, ?_⟩
      by_cases c2 : x = 0
      · exact c2
      · rw [if_pos c2] at hE; omega
  obtain ⟨d1, d2, rfl⟩ := hd
  obtain ⟨m1, m2, d3, d4⟩ := len0_2001 d1 d2
  have hv : Valid y m d := ⟨h1, h2, m1, m2, d1, Int.le_trans d4 (len_2001 y m m1 m2)⟩
  have hb := raw_bd hv
  obtain ⟨k0, f1, f2, f3, f4⟩ := free_ok rest hr hf (raw y m d)
  have HR : RowKit.Hid (ruleN rest (1, m, d, 0) y = raw y m d + k0) := Lib.hid (by unfold ruleN ruleD; simp only; rw [if_pos trivial, f2]; rfl)
  have CR : RowKit.Hid (∀ w, Calls Try.prog 38 #[.agg #[.int .i64 y, .int .i64 m, .int .i64 d]] w (RefDayQ y m d w)) := Lib.hid (fun w => dayOfR_any y m d w h1 (by omega) m1 m2 (by omega) (by omega))
  have CW : RowKit.Hid (∀ n w, 1 ≤ n → n ≤ 1000000000 → Calls Try.prog 71 #[.int .i64 n] w fun e w' => e = .returned (.int .i64 (wd n)) ∧ w = w') := Lib.hid (fun n w g1 g2 => dayOfWeek_any n w g1 g2)
  obtain ⟨a, cap, rfl, g1, g2, g3⟩ := h
  obtain ⟨b0, b1, b2, b3, b4, b5, b6, rfl⟩ := len7 hr
  obtain ⟨hx1, hx2, hb0⟩ := two_box w b0 b1 b2 b3 b4 b5 b6 (.slice a rules.length cap) 1 m d 0
  have HX1 := Lib.hid hx1; have HX2 := Lib.hid hx2; have HB0 := Lib.hid hb0
  have F3 := Lib.hid f3; have F4 := Lib.hid f4
  have HWD := Lib.hid wd_bd
  have HRST : RowKit.Hid (∀ n, isRest [b0, b1, b2, b3, b4, b5, b6] n = [b0, b1, b2, b3, b4, b5, b6].getD (wd n - 1).toNat false) := Lib.hid (fun _ => rfl)
  show Calls Try.prog 64 #[.agg #[.bool b0, .bool b1, .bool b2, .bool b3, .bool b4, .bool b5, .bool b6, .slice a rules.length cap], _, _] w _
  rw [HR.out]
  unfold RefDayQ at CR
  obtain ⟨N, hN⟩ : ∃ N, raw y m d = N := ⟨_, rfl⟩
  rw [hN] at hb F3 F4 CR ⊢
  clear HR hE hf f2 f3 f4 hN hv d2 d4 g3 hx1 hx2 hb0 hr
  go_enter Try.func64, Try.ntmps64
  go_wp2_with fail
  refine (CR.out _).mono ?_
  rintro en w1 ⟨rfl, b1'⟩
  have HB1 := Lib.hid (bt HB0.out b1')
  have HY1 := Lib.hid (HX1.out.next b1')
  clear b1' HB0 HX1 HX2
  go_wp2
  go_loopw [7] (fun i wr => ∃ k : Nat, k ≤ k0 ∧ i = .int .i64 (N + k) ∧ Below w.heap.size w wr ∧ Box wr w.heap.size 25 (calB b0 b1 b2 b3 b4 b5 b6 (.slice a rules.length cap))) (fun i _ => (N + k0 - intOf i).toNat)
  case atStart => exact ⟨0, Nat.zero_le _, by simp, HB1.out, HY1.out⟩
  case round =>
    obtain ⟨k, hk, rfl, hbw, hbx⟩ := hrel
    have HBW := Lib.hid hbw; have HBX := Lib.hid hbx
    clear hbw HB1 HY1
    obtain ⟨T, hT⟩ : ∃ T, N + (k : Int) = T := ⟨_, rfl⟩
    rw [hT]
    have t1 : 1 ≤ T := by omega
    have t2 : T ≤ 1000000000 := by omega
    have CW1 := Lib.hid (CW.out T wr t1 t2)
    obtain ⟨u1, u2⟩ := HWD.out T
    have hcell := cal_cell hbx (wd T - 1).toNat (by omega)
    rw [← HRST.out T] at hcell
    clear hbx
    obtain ⟨W, hW⟩ : ∃ W, wd T = W := ⟨_, rfl⟩
    rw [hW] at CW1 u1 u2 hcell
    clear hW
    obtain ⟨j, rfl⟩ : ∃ j : Nat, W = (j : Int) + 1 := ⟨(W - 1).toNat, by omega⟩
    have e1 : ((j : Int) + 1 - 1) = (j : Int) := by omega
    rw [e1, Int.toNat_natCast] at hcell
    have hj : j < 7 := by omega
    have HT := Lib.hid hT
    by_cases hlt : k < k0
    · have hq := F4.out k hlt
      rw [hT] at hq
      rw [hq] at hcell
      clear hq hT F3 F4 HRST HWD
      go_wp2_with fail
      refine CW1.out.mono ?_
      rintro en w2 ⟨rfl, e2⟩
      subst e2
      go_wp2
      go_roundw
      case rel => exact ⟨k + 1, by omega, by rw [← HT.out]; first | rfl | go_num | (congr 1; omega), HBW.out, HBX.out⟩
      case measure => simp [intOf]; have := HT.out; omega
    · have hkk : k = k0 := by omega
      subst hkk
      have hq := F3.out
      rw [hT] at hq
      rw [hq] at hcell
      clear hq hT F3 F4 HRST HWD
      go_wp2_with fail
      refine CW1.out.mono ?_
      rintro en w2 ⟨rfl, e2⟩
      subst e2
      go_wp2
      go_ret
      exact ⟨by rw [HT.out]; rfl, HBW.out⟩
set_option maxRecDepth 100000 in
set_option maxHeartbeats 4000000 in
theorem dayR_3 (rest : List Bool) (hr : rest.length = 7) (v : Value) (rules : List Rl) (m d x y : Int) (hE : ruleE (3, m, d, x) = 0) (w : World) (h : RdE elRl w v rules) :
    Calls Try.prog 64 #[cV rest v, rV 3 m d x, .int .i64 y] w (RetB (.int .i64 (ruleN rest (3, m, d, x) y)) w) := by
  have hd : -100 ≤ d ∧ d ≤ 100 := by
    unfold ruleE at hE
    simp only at hE
    rw [if_neg (by decide), if_neg (by decide), if_pos trivial] at hE
    by_cases c : m ≠ 0 ∨ x ≠ 0
    · rw [if_pos c] at hE; omega
    · rw [if_neg c] at hE
      by_cases c2 : d < -100 ∨ 100 < d
      · rw [if_pos c2] at hE; omega
      · omega
  have CF : RowKit.Hid (∀ w, Calls Try.prog 80 #[.int .i64 y] w (SunQ y w)) := Lib.hid (fun w => easterOf_any y w)
  unfold SunQ at CF
  obtain ⟨a, cap, rfl, g1, g2, g3⟩ := h
  obtain ⟨b0, b1, b2, b3, b4, b5, b6, rfl⟩ := len7 hr
  obtain ⟨hx1, hx2, hb0⟩ := two_box w b0 b1 b2 b3 b4 b5 b6 (.slice a rules.length cap) 3 m d x
  have HX2 := Lib.hid hx2; have HB0 := Lib.hid hb0
  show Calls Try.prog 64 #[.agg #[.bool b0, .bool b1, .bool b2, .bool b3, .bool b4, .bool b5, .bool b6, .slice a rules.length cap], _, _] w _
  by_cases c : 1583 ≤ y ∧ y ≤ 9999
  · have e : sunF y = (easter y, 0) := by unfold sunF; rw [if_pos c]
    have hR : ruleN [b0, b1, b2, b3, b4, b5, b6] (3, m, d, x) y = easter y + d := by
      unfold ruleN ruleD; simp only
      rw [if_neg (by decide), if_neg (by decide), if_pos c]; rfl
    have hb := easter_bd y c.1 c.2
    rw [e] at CF
    rw [hR]
    clear hR hE e hx1 hx2 hb0 hr g3 c
    obtain ⟨N, hN⟩ : ∃ N, easter y = N := ⟨_, rfl⟩
    rw [hN] at hb CF ⊢
    clear hN
    go_enter Try.func64, Try.ntmps64
    go_wp2_with fail
    refine (CF.out _).mono ?_
    rintro en w1 ⟨rfl, b1'⟩
    have HB1 := Lib.hid (bt HB0.out b1')
    have hy2 := HX2.out.next b1'
    have c0 := hy2.cell 0; have c1 := hy2.cell 1; have c2 := hy2.cell 2; have c3 := hy2.cell 3
    simp only [List.getElem?_cons_zero, List.getElem?_cons_succ] at c0 c1 c2 c3
    clear b1' hy2
    go_wp2
    go_ret
    exact ⟨by first | rfl | (simp; done), HB1.out⟩
  · have e : sunF y = (0, 3) := by unfold sunF; rw [if_neg c]
    have hR : ruleN [b0, b1, b2, b3, b4, b5, b6] (3, m, d, x) y = 0 := by
      unfold ruleN ruleD; simp only
      rw [if_neg (by decide), if_neg (by decide), if_neg c]; rfl
    rw [e] at CF
    rw [hR]
    clear hR hE e hx1 hx2 hb0 hr g3 c
    go_enter Try.func64, Try.ntmps64
    go_wp2_with fail
    refine (CF.out _).mono ?_
    rintro en w1 ⟨rfl, b1'⟩
    have HB1 := Lib.hid (bt HB0.out b1')
    clear b1'
    go_wp2
    go_ret
    exact ⟨by first | rfl | (simp; done), HB1.out⟩
set_option maxRecDepth 100000 in
set_option maxHeartbeats 8000000 in
theorem dayR_2 (rest : List Bool) (hr : rest.length = 7) (v : Value) (rules : List Rl) (m d x y : Int) (hE : ruleE (2, m, d, x) = 0) (w : World) (h : RdE elRl w v rules) (h1 : 1 ≤ y) (h2 : y ≤ 9999) :
    Calls Try.prog 64 #[cV rest v, rV 2 m d x, .int .i64 y] w (RetB (.int .i64 (ruleN rest (2, m, d, x) y)) w) := by
  have hd : 1 ≤ m ∧ m ≤ 12 ∧ 1 ≤ d ∧ d ≤ 5 ∧ 1 ≤ x ∧ x ≤ 7 := by
    unfold ruleE at hE
    simp only at hE
    rw [if_neg (by decide), if_pos trivial] at hE
    by_cases c : m < 1 ∨ 12 < m ∨ d < 1 ∨ 5 < d ∨ x < 1 ∨ 7 < x
    · rw [if_pos c] at hE; omega
    · omega
  obtain ⟨m1, m2, d1, d2, x1, x2⟩ := hd
  have hlv := len_bd y m m1 m2
  have hv : Valid y m 1 := ⟨h1, h2, m1, m2, by decide, by omega⟩
  have hb := raw_bd hv
  have hl0 : len0 y m = len y m := by unfold len0; rw [if_pos ⟨h1, h2, m1, m2⟩]
  have hrk : ∀ k : Int, raw y m (k + 1) = raw y m 1 + k := fun k => by unfold raw; omega
  have CR : RowKit.Hid (∀ (k : Int) w, 0 ≤ k → k ≤ 100 → Calls Try.prog 38 #[.agg #[.int .i64 y, .int .i64 m, .int .i64 (k + 1)]] w fun e w' => e = .returned (.int .i64 (raw y m 1 + k)) ∧ Below w.heap.size w w') := Lib.hid (fun k w g1 g2 => by
    have := dayOfR_any y m (k + 1) w h1 (by omega) m1 m2 (by omega) (by omega)
    unfold RefDayQ at this
    rwa [hrk k] at this)
  have CW : RowKit.Hid (∀ n w, 1 ≤ n → n ≤ 1000000000 → Calls Try.prog 71 #[.int .i64 n] w fun e w' => e = .returned (.int .i64 (wd n)) ∧ w = w') := Lib.hid (fun n w g1 g2 => dayOfWeek_any n w g1 g2)
  have CL : RowKit.Hid (∀ w, Calls Try.prog 67 #[.int .i64 y, .int .i64 m] w fun e w' => e = .returned (.int .i64 (len0 y m)) ∧ w = w') := Lib.hid (fun w => monthDays_any y m w)
  rw [hl0] at CL
  obtain ⟨a, cap, rfl, g1, g2, g3⟩ := h
  obtain ⟨b0, b1, b2, b3, b4, b5, b6, rfl⟩ := len7 hr
  obtain ⟨hx1, hx2, hb0⟩ := two_box w b0 b1 b2 b3 b4 b5 b6 (.slice a rules.length cap) 2 m d x
  have HX2 := Lib.hid hx2; have HB0 := Lib.hid hb0
  have hR : ruleN [b0, b1, b2, b3, b4, b5, b6] (2, m, d, x) y = if raw y m 1 + len y m ≤ raw y m 1 + (x - wd (raw y m 1) + 7) % 7 + 7 * (d - 1) then raw y m 1 + (x - wd (raw y m 1) + 7) % 7 + 7 * (d - 1) - 7 else raw y m 1 + (x - wd (raw y m 1) + 7) % 7 + 7 * (d - 1) := by
    unfold ruleN ruleD; simp only
    rw [if_neg (by decide), if_pos trivial, hl0]; rfl
  have hLL := (len_bd y m m1 m2)
  obtain ⟨N, hN⟩ : ∃ N, raw y m 1 = N := ⟨_, rfl⟩
  obtain ⟨L, hL⟩ : ∃ L, len y m = L := ⟨_, rfl⟩
  rw [hN, hL] at hR
  rw [hN] at CR hb
  rw [hL] at CL hLL
  show Calls Try.prog 64 #[.agg #[.bool b0, .bool b1, .bool b2, .bool b3, .bool b4, .bool b5, .bool b6, .slice a rules.length cap], _, _] w _
  obtain ⟨Z, hZ⟩ : ∃ Z, ruleN [b0, b1, b2, b3, b4, b5, b6] (2, m, d, x) y = Z := ⟨_, rfl⟩
  rw [hZ] at hR ⊢
  have HI0 := Lib.hid (nth_0 N x d d1 x1 x2)
  have HNO := Lib.hid (fun (k mm F : Int) => @nth_no N x d k mm F x1 x2)
  have HYE := Lib.hid (fun (k mm F : Int) => @nth_yes N x d k mm F x1 x2)
  have HFU := Lib.hid (fun (k mm F : Int) => @nth_full N x d k mm F x1 x2)
  have HEN : RowKit.Hid (∀ mm F, NthI N ((x - wd N + 7) % 7) d L mm F → F = Z) := Lib.hid (fun mm F h => by rw [hR]; exact nth_end x1 x2 d1 d2 hLL h)
  obtain ⟨r0, hr0⟩ : ∃ r0, (x - wd N + 7) % 7 = r0 := ⟨_, rfl⟩
  rw [hr0] at HI0 HNO HYE HFU HEN
  have HMB : RowKit.Hid (∀ k mm F, NthI N r0 d k mm F → 0 ≤ mm ∧ mm ≤ d) := Lib.hid (fun k mm F h => ⟨h.1, h.2.1⟩)
  clear hR hZ hr0 hN hL hl0 hlv hv hrk hx1 hx2 hb0 hr g3 hE
  go_enter Try.func64, Try.ntmps64
  go_wp2
  go_loopw [8, 9, 10] (fun f mv i wr => ∃ (k : Nat) (mm F : Int), (k : Int) ≤ L ∧ i = .int .i64 ((k : Int) + 1) ∧ mv = .int .i64 mm ∧ f = .int .i64 F ∧ NthI N r0 d k mm F ∧ Below w.heap.size w wr ∧ Box wr (w.heap.size + 1) 72 [.int .i64 2, .int .i64 m, .int .i64 d, .int .i64 x]) (fun _ _ i _ => (L + 1 - intOf i).toNat)
  case atStart => exact ⟨0, 0, 0, by omega, by first | rfl | go_num, rfl, rfl, HI0.out, HB0.out, HX2.out⟩
  case round =>
    obtain ⟨k, mm, F, hk, rfl, rfl, rfl, hi, hbw, hbx⟩ := hrel
    have HBW := Lib.hid hbw; have HBX := Lib.hid hbx
    have HIN := Lib.hid hi
    obtain ⟨mb1, mb2⟩ := HMB.out _ _ _ hi
    have c0 := hbx.cell 0; have c1 := hbx.cell 1; have c2 := hbx.cell 2; have c3 := hbx.cell 3
    simp only [List.getElem?_cons_zero, List.getElem?_cons_succ] at c0 c1 c2 c3
    clear hbw hbx hi HB0 HX2
    obtain ⟨K, hK⟩ : ∃ K : Int, (k : Int) = K := ⟨_, rfl⟩
    have HK := Lib.hid hK
    rw [hK] at hk HIN ⊢
    have K0 : 0 ≤ K := by omega
    have K1 : RowKit.Hid (((k + 1 : Nat) : Int) = K + 1) := Lib.hid (by omega)
    clear hK
    by_cases hlt : K + 1 ≤ L
    · have t1 : 1 ≤ N + K := by omega
      have t2 : N + K ≤ 1000000000 := by omega
      have CW1 := Lib.hid (fun w => CW.out (N + K) w t1 t2)
      have CR1 := Lib.hid (fun w => CR.out K w K0 (by omega))
      have HN1 := Lib.hid (HNO.out K mm F K0 HIN.out)
      have HY1 := Lib.hid (HYE.out K mm F K0 HIN.out)
      have HF1 := Lib.hid (HFU.out K mm F K0 HIN.out)
      obtain ⟨W, hW⟩ : ∃ W, wd (N + K) = W := ⟨_, rfl⟩
      rw [hW] at CW1 HN1 HY1
      clear hW HNO HYE HFU HEN HMB CR CW HIN HI0
      by_cases cw : W = x
      · subst cw
        by_cases cm : mm < d
        · have HG := Lib.hid (HY1.out rfl cm)
          go_wp2_with fail
          refine (CL.out _).mono ?_
          rintro en w2 ⟨rfl, e2⟩
          subst e2
          go_wp2_with fail
          refine (CR1.out _).mono ?_
          rintro en w2 ⟨rfl, b2'⟩
          have HB2 := Lib.hid (bt HBW.out b2')
          have HX3 := Lib.hid (HBX.out.next b2')
          have c0 := HX3.out.cell 0; have c1 := HX3.out.cell 1; have c2 := HX3.out.cell 2; have c3 := HX3.out.cell 3
          simp only [List.getElem?_cons_zero, List.getElem?_cons_succ] at c0 c1 c2 c3
          clear b2'
          go_wp2_with fail
          go_quiet ((go_at_call 71; exact qz (CW1.out _)))
          go_wp2
          go_roundw
          case rel => exact ⟨k + 1, mm + 1, N + K, by rw [K1.out]; exact hlt, by rw [K1.out], rfl, rfl, by rw [K1.out]; exact HG.out, bn HB2.out _, HX3.out.dr _⟩
          case measure => simp [intOf]; omega
        · have HG := Lib.hid (HF1.out (by omega))
          go_wp2_with fail
          refine (CL.out _).mono ?_
          rintro en w2 ⟨rfl, e2⟩
          subst e2
          go_wp2_with fail
          refine (CR1.out _).mono ?_
          rintro en w2 ⟨rfl, b2'⟩
          have HB2 := Lib.hid (bt HBW.out b2')
          have HX3 := Lib.hid (HBX.out.next b2')
          have c0 := HX3.out.cell 0; have c1 := HX3.out.cell 1; have c2 := HX3.out.cell 2; have c3 := HX3.out.cell 3
          simp only [List.getElem?_cons_zero, List.getElem?_cons_succ] at c0 c1 c2 c3
          clear b2'
          go_wp2_with fail
          go_quiet ((go_at_call 71; exact qz (CW1.out _)))
          go_wp2
          go_roundw
          case rel => exact ⟨k + 1, mm, F, by rw [K1.out]; exact hlt, by rw [K1.out], rfl, rfl, by rw [K1.out]; exact HG.out, bn HB2.out _, HX3.out.dr _⟩
          case measure => simp [intOf]; omega
      · have HG := Lib.hid (HN1.out cw)
        have cw2 : (W == x) = false := by simpa using cw
        go_wp2_with fail
        refine (CL.out _).mono ?_
        rintro en w2 ⟨rfl, e2⟩
        subst e2
        go_wp2_with fail
        refine (CR1.out _).mono ?_
        rintro en w2 ⟨rfl, b2'⟩
        have HB2 := Lib.hid (bt HBW.out b2')
        have HX3 := Lib.hid (HBX.out.next b2')
        have c0 := HX3.out.cell 0; have c1 := HX3.out.cell 1; have c2 := HX3.out.cell 2; have c3 := HX3.out.cell 3
        simp only [List.getElem?_cons_zero, List.getElem?_cons_succ] at c0 c1 c2 c3
        clear b2'
        go_wp2_with fail
        go_quiet ((go_at_call 71; exact qz (CW1.out _)))
        go_wp2
        go_roundw
        case rel => exact ⟨k + 1, mm, F, by rw [K1.out]; exact hlt, by rw [K1.out], rfl, rfl, by rw [K1.out]; exact HG.out, bn HB2.out _, HX3.out.dr _⟩
        case measure => simp [intOf]; omega
    · have hkL : K = L := by omega
      subst hkL
      have HG := Lib.hid (HEN.out mm F HIN.out)
      clear HNO HYE HFU HEN HMB CR CW HIN HI0
      go_wp2_with fail
      refine (CL.out _).mono ?_
      rintro en w2 ⟨rfl, e2⟩
      subst e2
      go_wp2
      go_ret
      exact ⟨by rw [← HG.out]; first | rfl | (simp; done), HBW.out⟩
theorem dayR_any (rest : List Bool) (hr : rest.length = 7) (hf : rest.all id = false) (v : Value) (rules : List Rl) (r : Rl) (y : Int) (hE : ruleE r = 0) (w : World) (h : RdE elRl w v rules) (h1 : 1 ≤ y) (h2 : y ≤ 9999) :
    Calls Try.prog 64 #[cV rest v, rV r.1 r.2.1 r.2.2.1 r.2.2.2, .int .i64 y] w (RetB (.int .i64 (ruleN rest r y)) w) := by
  obtain ⟨k, m, d, x⟩ := r
  by_cases c1 : k = 1
  · subst c1; exact dayR_1 rest hr hf v rules m d x y hE w h h1 h2
  · by_cases c2 : k = 2
    · subst c2; exact dayR_2 rest hr v rules m d x y hE w h h1 h2
    · by_cases c3 : k = 3
      · subst c3; exact dayR_3 rest hr v rules m d x y hE w h
      · unfold ruleE at hE
        simp only at hE
        rw [if_neg c1, if_neg c2, if_neg c3] at hE
        omega
end Wk
end Go.Proofs.Ytjicpflgkhdppaa
/- Days of work: holidays, in the document. -/
set_option linter.unusedVariables false
namespace Go.Proofs.Ytjicpflgkhdppaa
open Go.RowKit
namespace Wk
open Dt
def anyN (rest : List Bool) (y n : Int) (l : List Rl) : Bool := l.any (fun r => decide (ruleN rest r y = n))
theorem isHol_any (rest : List Bool) (rules : List Rl) (y n : Int) (hy : 1 ≤ y) (hn : n ≠ 0) : isHol rest rules y n = anyN rest y n rules := by
  unfold isHol anyN days
  rw [decide_eq_true hy, Bool.true_and, Bool.eq_iff_iff]
  simp only [List.contains_iff_mem, List.mem_filterMap, List.any_eq_true, decide_eq_true_eq]
  constructor
  · rintro ⟨r, h1, h2⟩
    exact ⟨r, h1, by unfold ruleN; rw [h2]; rfl⟩
  · rintro ⟨r, h1, h2⟩
    refine ⟨r, h1, ?_⟩
    unfold ruleN at h2
    cases h : ruleD rest r y with
    | none => rw [h] at h2; exact absurd h2.symm hn
    | some k => rw [h] at h2; simp at h2; rw [h2]
theorem anyN_at (rest : List Bool) (y n : Int) (l : List Rl) (k : Nat) (h : k < l.length) : anyN rest y n (l.drop k) = (decide (ruleN rest l[k] y = n) || anyN rest y n (l.drop (k + 1))) := by
  rw [List.drop_eq_getElem_cons h]; rfl
theorem anyN_end (rest : List Bool) (y n : Int) (l : List Rl) (k : Nat) (h : l.length ≤ k) : anyN rest y n (l.drop k) = false := by
  rw [List.drop_eq_nil_of_le h]; rfl
set_option maxRecDepth 100000 in
set_option maxHeartbeats 4000000 in
theorem isHolR_0 (rest : List Bool) (hr : rest.length = 7) (v : Value) (rules : List Rl) (y n : Int) (w : World) (h : RdE elRl w v rules) (hy : y < 1) : Calls Try.prog 39 #[cV rest v, .int .i64 y, .int .i64 n] w (RetB (.bool false) w) := by
  have hle := h.len_le
  obtain ⟨a, cap, rfl, g1, g2, g3⟩ := h
  obtain ⟨b0, b1, b2, b3, b4, b5, b6, rfl⟩ := len7 hr
  have HX := Lib.hid (Box.new w 25 (calB b0 b1 b2 b3 b4 b5 b6 (.slice a rules.length cap)))
  have HB0 := Lib.hid ((br w).alloc (Nat.le_refl _) (calO b0 b1 b2 b3 b4 b5 b6 (.slice a rules.length cap)))
  show Calls Try.prog 39 #[.agg #[.bool b0, .bool b1, .bool b2, .bool b3, .bool b4, .bool b5, .bool b6, .slice a rules.length cap], _, _] w _
  clear g3 hr
  have hyy : decide (1 ≤ y) = false := decide_eq_false (by omega)
  go_enter Try.func39, Try.ntmps39
  go_wp2
  go_loopw [7] (fun i wr => ∃ k : Nat, k ≤ rules.length ∧ i = .int .i64 k ∧ Below w.heap.size w wr ∧ Box wr w.heap.size 25 (calB b0 b1 b2 b3 b4 b5 b6 (.slice a rules.length cap))) (fun i _ => rules.length - (intOf i).toNat)
  case atStart => exact ⟨0, Nat.zero_le _, rfl, HB0.out, HX.out⟩
  case round =>
    obtain ⟨k, hk, rfl, hbw, hbx⟩ := hrel
    have HBW := Lib.hid hbw; have HBX := Lib.hid hbx
    have c7 := hbx.cell 7
    simp only [List.getElem?_cons_zero, List.getElem?_cons_succ] at c7
    clear hbw hbx
    by_cases hlt : k < rules.length
    · have i1 : (k : Int) < (rules.length : Int) := by omega
      go_wp2_with fail
      go_quiet (fail)
      go_wp2
      go_roundw
      case rel => exact ⟨k + 1, by omega, by first | rfl | go_num, bn HBW.out _, HBX.out.dr _⟩
      case measure => simp [intOf]; omega
    · have i1 : ¬ (k : Int) < (rules.length : Int) := by omega
      go_wp2
      go_ret
      exact ⟨rfl, HBW.out⟩
set_option maxRecDepth 100000 in
set_option maxHeartbeats 4000000 in
theorem isHolR_1 (rest : List Bool) (hr : rest.length = 7) (hf : rest.all id = false) (v : Value) (rules : List Rl) (hE : rulesE rules = 0) (y n : Int) (w : World) (h : RdE elRl w v rules) (hy1 : 1 ≤ y) (hy2 : y ≤ 9999) : Calls Try.prog 39 #[cV rest v, .int .i64 y, .int .i64 n] w (RetB (.bool (anyN rest y n rules)) w) := by
  have HRD := Lib.hid h
  have hle := h.len_le
  have HD := Lib.hid (fun (k : Nat) (hk : k < rules.length) w' (hb : Below w.heap.size w w') => dayR_any rest hr hf v rules rules[k] y (rulesE_all rules hE _ (List.getElem_mem hk)) w' (HRD.out.below hb) hy1 hy2)
  have HA := Lib.hid (anyN_at rest y n rules)
  have HAE := Lib.hid (anyN_end rest y n rules)
  obtain ⟨Z, hZ⟩ : ∃ Z, anyN rest y n rules = Z := ⟨_, rfl⟩
  have HZ : RowKit.Hid (anyN rest y n (rules.drop 0) = Z) := Lib.hid (by simpa using hZ)
  rw [hZ]
  obtain ⟨a, cap, rfl, g1, g2, g3⟩ := h
  have H3 := Lib.hid g3
  obtain ⟨b0, b1, b2, b3, b4, b5, b6, hbs⟩ := len7 hr
  have hcv : cV rest (.slice a rules.length cap) = .agg #[.bool b0, .bool b1, .bool b2, .bool b3, .bool b4, .bool b5, .bool b6, .slice a rules.length cap] := by rw [hbs]; rfl
  have HX := Lib.hid (Box.new w 25 (calB b0 b1 b2 b3 b4 b5 b6 (.slice a rules.length cap)))
  have HB0 := Lib.hid ((br w).alloc (Nat.le_refl _) (calO b0 b1 b2 b3 b4 b5 b6 (.slice a rules.length cap)))
  rw [hcv] at HD ⊢
  clear g3 hr hZ hcv hbs hE hf
  have hyy : decide (1 ≤ y) = true := decide_eq_true hy1
  unfold RetB at HD
  go_enter Try.func39, Try.ntmps39
  go_wp2
  go_loopw [7] (fun i wr => ∃ k : Nat, k ≤ rules.length ∧ i = .int .i64 k ∧ anyN rest y n (rules.drop k) = Z ∧ Below w.heap.size w wr ∧ Box wr w.heap.size 25 (calB b0 b1 b2 b3 b4 b5 b6 (.slice a rules.length cap))) (fun i _ => rules.length - (intOf i).toNat)
  case atStart => exact ⟨0, Nat.zero_le _, rfl, HZ.out, HB0.out, HX.out⟩
  case round =>
    obtain ⟨k, hk, rfl, hz, hbw, hbx⟩ := hrel
    have HBW := Lib.hid hbw; have HBX := Lib.hid hbx
    have c0 := hbx.cell 0; have c1 := hbx.cell 1; have c2 := hbx.cell 2; have c3 := hbx.cell 3; have c4 := hbx.cell 4; have c5 := hbx.cell 5; have c6 := hbx.cell 6; have c7 := hbx.cell 7
    simp only [List.getElem?_cons_zero, List.getElem?_cons_succ] at c0 c1 c2 c3 c4 c5 c6 c7
    clear hbx HZ HX HB0
    by_cases hlt : k < rules.length
    · obtain ⟨g, off, rfl, hbl, hc⟩ := H3.out (by omega)
      obtain ⟨q0, q1, q2, q3⟩ := eRl_at hc k hlt
      have d0 := (hbw.cell (p := ⟨g, off + k * 4, none⟩) hbl).trans q0
      have d1 := (hbw.cell (p := ⟨g, off + k * 4 + 1, none⟩) hbl).trans q1
      have d2 := (hbw.cell (p := ⟨g, off + k * 4 + 2, none⟩) hbl).trans q2
      have d3 := (hbw.cell (p := ⟨g, off + k * 4 + 3, none⟩) hbl).trans q3
      have i1 : (k : Int) < (rules.length : Int) := by omega
      have i0 : (0 : Int) ≤ (k : Int) := by omega
      rw [HA.out k hlt] at hz
      have HDK := Lib.hid (fun w' (hb : Below wr.heap.size wr w') => HD.out k hlt w' (hbw.trans (hb.mono hbw.size)))
      clear hc q0 q1 q2 q3 hbw H3 HD HA HAE HRD
      obtain ⟨r, hr'⟩ : ∃ r, rules[k] = r := ⟨_, rfl⟩
      rw [hr'] at d0 d1 d2 d3 HDK hz
      clear hr'
      obtain ⟨F, hF⟩ : ∃ F, ruleN rest r y = F := ⟨_, rfl⟩
      rw [hF] at HDK hz
      clear hF
      obtain ⟨r0, r1, r2, r3⟩ := r
      simp only at d0 d1 d2 d3 HDK
      by_cases cn : F = n
      · subst cn
        have hZZ : Z = true := by rw [← hz]; simp
        subst hZZ
        clear hz
        go_wp2_with fail
        go_region_held3 (fun w' => w'.cell? ⟨w.heap.size, 0, none⟩ = some (.bool b0) ∧ w'.cell? ⟨w.heap.size, 1, none⟩ = some (.bool b1) ∧ w'.cell? ⟨w.heap.size, 2, none⟩ = some (.bool b2) ∧ w'.cell? ⟨w.heap.size, 3, none⟩ = some (.bool b3) ∧ w'.cell? ⟨w.heap.size, 4, none⟩ = some (.bool b4) ∧ w'.cell? ⟨w.heap.size, 5, none⟩ = some (.bool b5) ∧ w'.cell? ⟨w.heap.size, 6, none⟩ = some (.bool b6) ∧ w'.cell? ⟨w.heap.size, 7, none⟩ = some (.slice (some ⟨g, off, none⟩) rules.length cap) ∧ w'.cell? ⟨g, off + k * 4, none⟩ = some (.int .i64 r0) ∧ w'.cell? ⟨g, off + k * 4 + 1, none⟩ = some (.int .i64 r1) ∧ w'.cell? ⟨g, off + k * 4 + 2, none⟩ = some (.int .i64 r2) ∧ w'.cell? ⟨g, off + k * 4 + 3, none⟩ = some (.int .i64 r3))
          (first | go_keep | (go_split_ands; (repeat' apply And.intro) <;> first | assumption | exact kp hbb (by assumption)) | fail)
          (first
            | (go_at_call 64; refine (HDK.out _ (bn (br _) _)).mono ?_; rintro en wb ⟨rfl, hbb⟩)
            | fail)
        go_wp2
        go_ret
        exact ⟨rfl, bd HBW.out hbb⟩
      · have hz2 : anyN rest y n (rules.drop (k + 1)) = Z := by rw [← hz, decide_eq_false cn]; rfl
        have HZ2 := Lib.hid hz2
        have cn2 : (F == n) = false := by simpa using cn
        clear hz hz2
        go_wp2_with fail
        go_region_held3 (fun w' => w'.cell? ⟨w.heap.size, 0, none⟩ = some (.bool b0) ∧ w'.cell? ⟨w.heap.size, 1, none⟩ = some (.bool b1) ∧ w'.cell? ⟨w.heap.size, 2, none⟩ = some (.bool b2) ∧ w'.cell? ⟨w.heap.size, 3, none⟩ = some (.bool b3) ∧ w'.cell? ⟨w.heap.size, 4, none⟩ = some (.bool b4) ∧ w'.cell? ⟨w.heap.size, 5, none⟩ = some (.bool b5) ∧ w'.cell? ⟨w.heap.size, 6, none⟩ = some (.bool b6) ∧ w'.cell? ⟨w.heap.size, 7, none⟩ = some (.slice (some ⟨g, off, none⟩) rules.length cap) ∧ w'.cell? ⟨g, off + k * 4, none⟩ = some (.int .i64 r0) ∧ w'.cell? ⟨g, off + k * 4 + 1, none⟩ = some (.int .i64 r1) ∧ w'.cell? ⟨g, off + k * 4 + 2, none⟩ = some (.int .i64 r2) ∧ w'.cell? ⟨g, off + k * 4 + 3, none⟩ = some (.int .i64 r3))
          (first | go_keep | (go_split_ands; (repeat' apply And.intro) <;> first | assumption | exact kp hbb (by assumption)) | fail)
          (first
            | (go_at_call 64; refine (HDK.out _ (bn (br _) _)).mono ?_; rintro en wb ⟨rfl, hbb⟩)
            | fail)
        have HX9 := Lib.hid ((HBX.out.dr 1).next hbb)
        have HB9 := Lib.hid (bd HBW.out hbb)
        clear hbb
        go_wp2
        go_roundw
        case rel => exact ⟨k + 1, by omega, by first | rfl | go_num, HZ2.out, HB9.out, HX9.out⟩
        case measure => simp [intOf]; omega
    · have i1 : ¬ (k : Int) < (rules.length : Int) := by omega
      rw [HAE.out k (by omega)] at hz
      have HZ2 := Lib.hid hz
      clear hz hbw
      go_wp2
      go_ret
      exact ⟨by rw [← HZ2.out]; rfl, HBW.out⟩
theorem isHolR_any (rest : List Bool) (v : Value) (rules : List Rl) (hc : Cal rest rules) (y n : Int) (hn : n ≠ 0) (w : World) (h : RdE elRl w v rules) (hy2 : y ≤ 9999) : Calls Try.prog 39 #[cV rest v, .int .i64 y, .int .i64 n] w (RetB (.bool (isHol rest rules y n)) w) := by
  by_cases hy : 1 ≤ y
  · rw [isHol_any rest rules y n hy hn]
    exact isHolR_1 rest hc.len hc.some_ v rules hc.ok y n w h hy hy2
  · have e : isHol rest rules y n = false := by unfold isHol; rw [decide_eq_false hy]; rfl
    rw [e]
    exact isHolR_0 rest hc.len v rules y n w h (by omega)
end Wk
end Go.Proofs.Ytjicpflgkhdppaa
/- Days of work: is a day one, in the document. -/
set_option linter.unusedVariables false
namespace Go.Proofs.Ytjicpflgkhdppaa
open Go.RowKit
namespace Wk
open Dt
set_option maxRecDepth 100000 in
set_option maxHeartbeats 4000000 in
theorem isWR_core (b0 b1 b2 b3 b4 b5 b6 : Bool) (a : Option Addr) (len cap : Nat) (n Y m d W : Int) (q p0 p1 : Bool) (w : World) (hW1 : 0 ≤ W) (hW2 : W < 7) (hq : [b0, b1, b2, b3, b4, b5, b6].getD W.toNat false = q)
    (C1 : RowKit.Hid (∀ w, Calls Try.prog 70 #[.int .i64 n] w fun e w' => e = .returned (.tuple #[.agg #[.int .i64 Y, .int .i64 m, .int .i64 d], .int .i64 0]) ∧ Below w.heap.size w w'))
    (C2 : RowKit.Hid (∀ w, Calls Try.prog 71 #[.int .i64 n] w fun e w' => e = .returned (.int .i64 (W + 1)) ∧ w = w'))
    (C3 : RowKit.Hid (∀ w', Below w.heap.size w w' → Calls Try.prog 39 #[.agg #[.bool b0, .bool b1, .bool b2, .bool b3, .bool b4, .bool b5, .bool b6, .slice a len cap], .int .i64 Y, .int .i64 n] w' (RetB (.bool p0) w')))
    (C4 : RowKit.Hid (∀ w', Below w.heap.size w w' → Calls Try.prog 39 #[.agg #[.bool b0, .bool b1, .bool b2, .bool b3, .bool b4, .bool b5, .bool b6, .slice a len cap], .int .i64 (Y - 1), .int .i64 n] w' (RetB (.bool p1) w'))) (hY1 : 1 ≤ Y) (hY2 : Y ≤ 9999) :
    Calls Try.prog 49 #[.agg #[.bool b0, .bool b1, .bool b2, .bool b3, .bool b4, .bool b5, .bool b6, .slice a len cap], .int .i64 n] w (RetB (.bool (!q && !p0 && !p1)) w) := by
  have HX := Lib.hid (Box.new w 25 (calB b0 b1 b2 b3 b4 b5 b6 (.slice a len cap)))
  have HB0 := Lib.hid ((br w).alloc (Nat.le_refl _) (calO b0 b1 b2 b3 b4 b5 b6 (.slice a len cap)))
  obtain ⟨j, rfl⟩ : ∃ j : Nat, W = j := ⟨W.toNat, by omega⟩
  rw [Int.toNat_natCast] at hq
  have hj : j < 7 := by omega
  unfold RetB at C3 C4
  go_enter Try.func49, Try.ntmps49
  go_wp2_with fail
  refine (C1.out _).mono ?_
  rintro en w1 ⟨rfl, b1'⟩
  have HB1 := Lib.hid (bt HB0.out b1')
  have HX1 := Lib.hid (HX.out.next b1')
  clear b1' HX HB0
  go_wp2_with fail
  refine (C2.out _).mono ?_
  rintro en w2 ⟨rfl, e2⟩
  subst e2
  have HB2 := Lib.hid (HB1.out.alloc HB1.out.size (.cells #[.int .i64 Y, .int .i64 m, .int .i64 d] 46))
  have hx2 := HX1.out.alloc (.cells #[.int .i64 Y, .int .i64 m, .int .i64 d] 46)
  have hy2 := Box.new w1 46 [.int .i64 Y, .int .i64 m, .int .i64 d]
  have HX2 := Lib.hid hx2; have HY2 := Lib.hid hy2
  have hcell := cal_cell hx2 j hj
  rw [hq] at hcell
  have c0 := hx2.cell 0; have c1 := hx2.cell 1; have c2 := hx2.cell 2; have c3 := hx2.cell 3; have c4 := hx2.cell 4; have c5 := hx2.cell 5; have c6 := hx2.cell 6; have c7 := hx2.cell 7
  simp only [List.getElem?_cons_zero, List.getElem?_cons_succ] at c0 c1 c2 c3 c4 c5 c6 c7
  clear hx2 hy2 hq
  cases q with
  | true =>
    go_wp2
    go_ret
    exact ⟨by first | rfl | (simp; done), HB2.out⟩
  | false =>
    cases p0 with
    | true =>
      go_wp2_with fail
      refine (C3.out _ HB2.out).mono ?_
      rintro en w3 ⟨rfl, b3'⟩
      have HB3 := Lib.hid (bt HB2.out b3')
      clear b3'
      go_wp2
      go_ret
      exact ⟨by first | rfl | (simp; done), HB3.out⟩
    | false =>
      go_wp2_with fail
      refine (C3.out _ HB2.out).mono ?_
      rintro en w3 ⟨rfl, b3'⟩
      have HB3 := Lib.hid (bt HB2.out b3')
      have hx3 := HX2.out.next b3'
      have hy3 := HY2.out.next b3'
      have e0 := hx3.cell 0; have e1 := hx3.cell 1; have e2 := hx3.cell 2; have e3 := hx3.cell 3; have e4 := hx3.cell 4; have e5 := hx3.cell 5; have e6 := hx3.cell 6; have e7 := hx3.cell 7
      have f0 := hy3.cell 0
      simp only [List.getElem?_cons_zero, List.getElem?_cons_succ] at e0 e1 e2 e3 e4 e5 e6 e7 f0
      clear b3' hx3 hy3 c0 c1 c2 c3 c4 c5 c6 c7 hcell
      go_wp2_with fail
      refine (C4.out _ HB3.out).mono ?_
      rintro en w4 ⟨rfl, b4'⟩
      have HB4 := Lib.hid (bt HB3.out b4')
      clear b4'
      go_wp2
      go_ret
      exact ⟨by first | rfl | (simp; done), HB4.out⟩
theorem isWR_any (rest : List Bool) (v : Value) (rules : List Rl) (hc : Cal rest rules) (n : Int) (h1 : 1 ≤ n) (h2 : n ≤ 3651693) (w : World) (h : RdE elRl w v rules) : Calls Try.prog 49 #[cV rest v, .int .i64 n] w (RetB (.bool (isW rest rules n)) w) := by
  have HRD := Lib.hid h
  obtain ⟨a, cap, rfl, g1, g2, g3⟩ := h
  obtain ⟨y1, y2, _, _⟩ := yearOf_bd n h1 (by omega)
  obtain ⟨u1, u2⟩ := wd_bd n
  have hof : ofF n = (dateOf n, 0) := by unfold ofF; rw [if_pos ⟨h1, by omega⟩]
  obtain ⟨b0, b1, b2, b3, b4, b5, b6, hbs⟩ := len7 hc.len
  have hcv : cV rest (.slice a rules.length cap) = .agg #[.bool b0, .bool b1, .bool b2, .bool b3, .bool b4, .bool b5, .bool b6, .slice a rules.length cap] := by rw [hbs]; rfl
  have := isWR_core b0 b1 b2 b3 b4 b5 b6 a rules.length cap n (yearOf n) (dateOf n).2.1 (dateOf n).2.2 (wd n - 1) (isRest rest n) (isHol rest rules (yearOf n) n) (isHol rest rules (yearOf n - 1) n) w (by omega) (by omega) (by unfold isRest; rw [hbs]) (Lib.hid fun w => ?_) (Lib.hid fun w => ?_) (Lib.hid fun w' hb => ?_) (Lib.hid fun w' hb => ?_) y1 y2
  · rw [hcv]; exact this
  · have := dateOfR_any n w
    unfold OfQ at this
    rw [hof] at this
    exact this
  · have := dayOfWeek_any n w h1 (by omega)
    rwa [show wd n = wd n - 1 + 1 by omega] at this
  · rw [← hcv]; exact isHolR_any rest _ rules hc _ n (by omega) w' (HRD.out.below hb) (by omega)
  · rw [← hcv]; exact isHolR_any rest _ rules hc _ n (by omega) w' (HRD.out.below hb) (by omega)
end Wk
end Go.Proofs.Ytjicpflgkhdppaa
