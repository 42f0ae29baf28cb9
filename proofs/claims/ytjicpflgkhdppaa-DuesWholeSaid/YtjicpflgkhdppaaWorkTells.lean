/- Days of work: the statements' plain law. (gen_work3.py) -/
import Derived.Test.YtjicpflgkhdppaaWorkBegun
import Derived.Test.YtjicpflgkhdppaaSame
set_option linter.unusedSimpArgs false
set_option linter.unusedVariables false
namespace Go.Proofs.Ytjicpflgkhdppaa
open Go.RowKit
namespace Wk
open Dt
theorem nextP_law (rest : List Bool) (rules : List Rl) (n : Int) : ((nextP rest rules n).2 ≠ 0 ∧ (nextP rest rules n).1 = 0) ∨ ((nextP rest rules n).2 = 0 ∧ n ≤ (nextP rest rules n).1 ∧ isP rest rules (nextP rest rules n).1 = (true, 0) ∧ ∀ k, n ≤ k → k < (nextP rest rules n).1 → isP rest rules k = (false, 0)) := by
  by_cases h0 : calE rest rules = 0
  · rw [nextPe n h0]
    rcases nextF_in rest rules n with h | ⟨m, h1, h2, h3, h4, h5⟩
    · left; rw [h]; exact ⟨by decide, rfl⟩
    · right
      rw [h1]
      refine ⟨rfl, h2, ?_, fun k k1 k2 => ?_⟩
      · rw [isPi m h0 h3, h4]
      · obtain ⟨k3, k4⟩ := h5 k k1 k2
        rw [isPi k h0 k3, k4]
  · left
    unfold nextP
    rw [if_pos h0]
    exact ⟨h0, rfl⟩
theorem adds_law (rest : List Bool) (rules : List Rl) : ∀ (k : Nat) (n x : Int), inB n = true → adds rest rules k n = (x, 0) → n ≤ x ∧ inB x = true ∧ cnt rest rules (n + 1) (x - n).toNat = k
  | 0, n, x, hn, h => by
    have : n = x := by have := congrArg Prod.fst h; exact this
    subst this
    exact ⟨Int.le_refl _, hn, by simp [cnt]⟩
  | k + 1, n, x, hn, h => by
    have h' : (if (nextF rest rules (n + 1)).2 ≠ 0 then (0, (nextF rest rules (n + 1)).2) else adds rest rules k (nextF rest rules (n + 1)).1) = (x, 0) := h
    rcases nextF_in rest rules (n + 1) with h1 | ⟨m, h1, h2, h3, h4, h5⟩
    · rw [h1, if_pos (by decide)] at h'
      have := congrArg Prod.snd h'; simp at this
    · rw [h1, if_neg (by simp)] at h'
      obtain ⟨i1, i2, i3⟩ := adds_law rest rules k m x h3 h'
      refine ⟨by omega, i2, ?_⟩
      have split : ∀ (s t : Nat) (a : Int), cnt rest rules a (s + t) = cnt rest rules a s + cnt rest rules (a + s) t := by
        intro s t a
        induction t with
        | zero => simp [cnt]
        | succ t ih =>
          have e1 : cnt rest rules a (s + (t + 1)) = cnt rest rules a (s + t) + if isW rest rules (a + ((s + t : Nat) : Int)) = true then 1 else 0 := rfl
          have e2 : cnt rest rules (a + s) (t + 1) = cnt rest rules (a + s) t + if isW rest rules (a + s + (t : Int)) = true then 1 else 0 := rfl
          rw [e1, e2, ih, show a + ((s + t : Nat) : Int) = a + s + t by omega]; omega
      have none_ : ∀ (t : Nat) (a : Int), (∀ j : Nat, j < t → isW rest rules (a + j) = false) → cnt rest rules a t = 0 := by
        intro t
        induction t with
        | zero => intro a _; rfl
        | succ t ih =>
          intro a hh
          have e1 : cnt rest rules a (t + 1) = cnt rest rules a t + if isW rest rules (a + (t : Int)) = true then 1 else 0 := rfl
          rw [e1, ih a (fun j hj => hh j (by omega)), hh t (by omega)]; simp
      have ex : (x - n).toNat = (m - (n + 1)).toNat + (1 + (x - m).toNat) := by omega
      rw [ex, split, split, none_ _ _ (fun j hj => (h5 _ (by omega) (by omega)).2)]
      have em : n + 1 + ((m - (n + 1)).toNat : Int) = m := by omega
      rw [em, show m + ((1 : Nat) : Int) = m + 1 by omega, i3]
      have e1 : cnt rest rules m 1 = 0 + if isW rest rules (m + ((0 : Nat) : Int)) = true then 1 else 0 := rfl
      rw [e1, show m + ((0 : Nat) : Int) = m by omega, h4]
      simp; omega
theorem cnt_split (rest : List Bool) (rules : List Rl) (s t : Nat) (a : Int) : cnt rest rules a (s + t) = cnt rest rules a s + cnt rest rules (a + s) t := by
  induction t with
  | zero => simp [cnt]
  | succ t ih =>
    have e1 : cnt rest rules a (s + (t + 1)) = cnt rest rules a (s + t) + if isW rest rules (a + ((s + t : Nat) : Int)) = true then 1 else 0 := rfl
    have e2 : cnt rest rules (a + s) (t + 1) = cnt rest rules (a + s) t + if isW rest rules (a + s + (t : Int)) = true then 1 else 0 := rfl
    rw [e1, e2, ih, show a + ((s + t : Nat) : Int) = a + s + t by omega]; omega
theorem adds_split (rest : List Bool) (rules : List Rl) (b : Nat) : ∀ (k : Nat) (n x : Int), adds rest rules (k + b) n = (x, 0) → ∃ y, adds rest rules k n = (y, 0) ∧ adds rest rules b y = (x, 0)
  | 0, n, x, h => ⟨n, rfl, by rwa [Nat.zero_add] at h⟩
  | k + 1, n, x, h => by
    rw [show k + 1 + b = (k + b) + 1 by omega] at h
    have h' : (if (nextF rest rules (n + 1)).2 ≠ 0 then (0, (nextF rest rules (n + 1)).2) else adds rest rules (k + b) (nextF rest rules (n + 1)).1) = (x, 0) := h
    by_cases c : (nextF rest rules (n + 1)).2 ≠ 0
    · rw [if_pos c] at h'
      exact absurd (congrArg Prod.snd h') c
    · rw [if_neg c] at h'
      obtain ⟨y, y1, y2⟩ := adds_split rest rules b k _ x h'
      refine ⟨y, ?_, y2⟩
      show (if (nextF rest rules (n + 1)).2 ≠ 0 then (0, (nextF rest rules (n + 1)).2) else adds rest rules k (nextF rest rules (n + 1)).1) = _
      rw [if_neg c]; exact y1
theorem adds_err (rest : List Bool) (rules : List Rl) : ∀ (k : Nat) (n : Int), (adds rest rules k n).2 ≠ 0 → (adds rest rules k n).1 = 0
  | 0, n, h => absurd rfl h
  | k + 1, n, h => by
    show (if (nextF rest rules (n + 1)).2 ≠ 0 then (0, (nextF rest rules (n + 1)).2) else adds rest rules k (nextF rest rules (n + 1)).1).1 = 0
    have h' : (if (nextF rest rules (n + 1)).2 ≠ 0 then (0, (nextF rest rules (n + 1)).2) else adds rest rules k (nextF rest rules (n + 1)).1).2 ≠ 0 := h
    by_cases c : (nextF rest rules (n + 1)).2 ≠ 0
    · rw [if_pos c]
    · rw [if_neg c] at h' ⊢
      exact adds_err rest rules k _ h'
theorem addP_err0 (rest : List Bool) (rules : List Rl) (n m : Int) (h : (addP rest rules n m).2 ≠ 0) : (addP rest rules n m).1 = 0 := by
  unfold addP addF at h ⊢
  by_cases c : calE rest rules ≠ 0
  · rw [if_pos c]
  · rw [if_neg c] at h ⊢
    by_cases c2 : inB n = false ∨ m < 0 ∨ 400 < m
    · rw [if_pos c2]
    · rw [if_neg c2] at h ⊢
      exact adds_err _ _ _ _ h
/-- by parts it is the same, and so many lie between -/
theorem addP_law (rest : List Bool) (rules : List Rl) (n a b x : Int) (ha : 0 ≤ a) (hb : 0 ≤ b) (hab : a + b ≤ 400) (h : addP rest rules n (a + b) = (x, 0)) :
    ∃ y, addP rest rules n a = (y, 0) ∧ addP rest rules y b = (x, 0) ∧ n ≤ x ∧ n ≤ 3651693 ∧ x ≤ 3651693 ∧ 1 ≤ n ∧ ((countP rest rules (n + 1) (x + 1)).2 = 2 ∨ (countP rest rules (n + 1) (x + 1)).2 = 3 ∨ countP rest rules (n + 1) (x + 1) = (a + b, 0)) := by
  have h0 : calE rest rules = 0 := by
    unfold addP at h
    by_cases c : calE rest rules ≠ 0
    · rw [if_pos c] at h; exact absurd (congrArg Prod.snd h) c
    · exact Classical.byContradiction c
  have un : ∀ k m, 0 ≤ m → m ≤ 400 → inB k = true → addP rest rules k m = adds rest rules m.toNat k := fun k m m1 m2 hk => by
    unfold addP addF
    rw [if_neg (fun g => g h0), if_neg (by rw [hk]; simp; omega)]
  have hn : inB n = true := by
    cases hh : inB n with
    | true => rfl
    | false =>
      unfold addP addF at h
      rw [if_neg (fun g => g h0), if_pos (.inl hh)] at h
      have := congrArg Prod.snd h; simp at this
  rw [un n (a + b) (by omega) hab hn, show (a + b).toNat = a.toNat + b.toNat by omega] at h
  obtain ⟨i1, i2, i3⟩ := adds_law rest rules _ n x hn h
  obtain ⟨y, y1, y2⟩ := adds_split rest rules b.toNat a.toNat n x h
  obtain ⟨j1, j2, j3⟩ := adds_law rest rules _ n y hn y1
  obtain ⟨n1, n2⟩ := (inB_iff n).1 hn
  obtain ⟨x1, x2⟩ := (inB_iff x).1 i2
  refine ⟨y, by rw [un n a ha (by omega) hn]; exact y1, by rw [un y b hb (by omega) j2]; exact y2, i1, n2, x2, n1, ?_⟩
  unfold countP countF
  rw [if_neg (fun g => g h0)]
  by_cases c : inB (n + 1) = false ∨ inB (x + 1) = false
  · rw [if_pos c]; exact .inr (.inl rfl)
  · rw [if_neg c, if_neg (by omega)]
    by_cases c2 : 2000 < x + 1 - (n + 1)
    · rw [if_pos c2]; exact .inl rfl
    · rw [if_neg c2]
      right; right
      rw [show (x + 1 - (n + 1)).toNat = (x - n).toNat by omega, i3]
      congr 1; omega
/-- what is counted in two parts -/
theorem countP_law (rest : List Bool) (rules : List Rl) (x y : Int) : ((countP rest rules x y).2 ≠ 0 ∧ (countP rest rules x y).1 = 0) ∨ ((countP rest rules x y).2 = 0 ∧ 1 ≤ x ∧ x ≤ y ∧ y ≤ 3651693 ∧ 0 ≤ (countP rest rules x y).1 ∧ (countP rest rules x y).1 ≤ y - x ∧ ∀ m, x ≤ m → m ≤ y → (countP rest rules x m).2 = 0 ∧ (countP rest rules m y).2 = 0 ∧ (countP rest rules x y).1 = (countP rest rules x m).1 + (countP rest rules m y).1) := by
  by_cases h0 : calE rest rules = 0
  · have e : ∀ x y, countP rest rules x y = countF rest rules x y := fun x y => by unfold countP; rw [if_neg (fun h => h h0)]
    rw [e]
    by_cases c : inB x = false ∨ inB y = false
    · left; unfold countF; rw [if_pos c]; exact ⟨by decide, rfl⟩
    by_cases c2 : y < x
    · left; unfold countF; rw [if_neg c, if_pos c2]; exact ⟨by decide, rfl⟩
    by_cases c3 : 2000 < y - x
    · left; unfold countF; rw [if_neg c, if_neg c2, if_pos c3]; exact ⟨by decide, rfl⟩
    right
    have hx : inB x = true := by cases h : inB x with
      | true => rfl
      | false => exact absurd (.inl h) c
    have hy : inB y = true := by cases h : inB y with
      | true => rfl
      | false => exact absurd (.inr h) c
    obtain ⟨x1, x2⟩ := (inB_iff x).1 hx
    obtain ⟨y1, y2⟩ := (inB_iff y).1 hy
    have un : ∀ s t, 1 ≤ s → s ≤ t → t ≤ 3651693 → t - s ≤ 2000 → countF rest rules s t = (cnt rest rules s (t - s).toNat, 0) := fun s t s1 st t2 d => by
      have a1 := (inB_iff s).2 ⟨s1, by omega⟩
      have a2 := (inB_iff t).2 ⟨by omega, t2⟩
      unfold countF
      rw [if_neg (by rw [a1, a2]; simp), if_neg (by omega), if_neg (by omega)]
    rw [un x y x1 (by omega) y2 (by omega)]
    have bd := cnt_bd rest rules x (y - x).toNat
    refine ⟨rfl, x1, by omega, y2, bd.1, by show cnt rest rules x (y - x).toNat ≤ _; omega, fun m m1 m2 => ?_⟩
    rw [e, e, un x m x1 m1 (by omega) (by omega), un m y (by omega) m2 y2 (by omega)]
    refine ⟨rfl, rfl, ?_⟩
    show cnt rest rules x (y - x).toNat = cnt rest rules x (m - x).toNat + cnt rest rules m (y - m).toNat
    rw [show (y - x).toNat = (m - x).toNat + (y - m).toNat by omega, cnt_split, show x + ((m - x).toNat : Int) = m by omega]
  · left; unfold countP; rw [if_pos h0]; exact ⟨h0, rfl⟩
theorem isP_law (rest : List Bool) (rules : List Rl) (n : Int) : (isP rest rules n).1 = false ∨ ((isP rest rules n) = (true, 0) ∧ calE rest rules = 0 ∧ inB n = true ∧ isW rest rules n = true) := by
  by_cases h0 : calE rest rules = 0
  · cases hn : inB n with
    | true =>
      rw [isPi n h0 hn]
      cases hw : isW rest rules n with
      | true => exact .inr ⟨rfl, h0, rfl, rfl⟩
      | false => exact .inl rfl
    | false => rw [isPo n h0 hn]; exact .inl rfl
  · rw [isPe n h0]; exact .inl rfl
set_option maxRecDepth 100000 in
set_option maxHeartbeats 8000000 in
theorem holTells_walk (rest : List Bool) (hr : rest.length = 7) (v : Value) (rules : List Rl) (y : Int) (w : World) (h : RdE elRl w v rules) : Calls Try.prog 3 #[cV rest v, .int .i64 y] w (RetB (.bool true) w) := by
  have HRD := Lib.hid h
  have hle := h.len_le
  obtain ⟨a, cap, rfl, g1, g2, g3⟩ := h
  clear g3
  obtain ⟨b0, b1, b2, b3, b4, b5, b6, hbs⟩ := len7 hr
  have hcv : cV rest (.slice a rules.length cap) = .agg #[.bool b0, .bool b1, .bool b2, .bool b3, .bool b4, .bool b5, .bool b6, .slice a rules.length cap] := by rw [hbs]; rfl
  have HB0 := Lib.hid ((br w).alloc (Nat.le_refl _) (.cells #[.bool b0, .bool b1, .bool b2, .bool b3, .bool b4, .bool b5, .bool b6, .slice a rules.length cap] 25))
  have HX0 := Lib.hid (Box.new w 25 (calB b0 b1 b2 b3 b4 b5 b6 (.slice a rules.length cap)))
  have CG : RowKit.Hid (∀ w, Calls Try.prog 14 #[] w fun e w' => e = .returned (.bool true) ∧ Below w.heap.size w w') := Lib.hid (fun w => begun_any w)
  have CH : RowKit.Hid (∀ w', Below w.heap.size w w' → Calls Try.prog 12 #[cV rest (.slice a rules.length cap), .int .i64 y] w' (fun e w'' => ∃ u, e = .returned (.tuple #[u, .int .i64 (holF rest rules y).2]) ∧ RdE elZ w'' u (holF rest rules y).1 ∧ Below w'.heap.size w' w'')) := Lib.hid (fun w' hb => hol_any rest hr _ rules y w' (HRD.out.below hb))
  have CJ : RowKit.Hid (∀ w', Below w.heap.size w w' → Calls Try.prog 13 #[cV rest (.slice a rules.length cap), .int .i64 y] w' (fun e w'' => ∃ u, e = .returned (.tuple #[u, .int .i64 (holF rest rules y).2]) ∧ RdE elZ w'' u (holF rest rules y).1 ∧ Below w'.heap.size w' w'')) := Lib.hid (fun w' hb => holR_any rest hr _ rules y w' (HRD.out.below hb))
  have C1 : RowKit.Hid (∀ w', Below w.heap.size w w' → Calls Try.prog 15 #[cV rest (.slice a rules.length cap)] w' (IntB (calE rest rules) w')) := Lib.hid (fun w' hb => check_any rest hr _ rules w' (HRD.out.below hb))
  have C2 : RowKit.Hid (∀ w', Below w.heap.size w w' → Calls Try.prog 16 #[cV rest (.slice a rules.length cap)] w' (IntB (calE rest rules) w')) := Lib.hid (fun w' hb => checkR_any rest hr _ rules w' (HRD.out.below hb))
  obtain ⟨P, hP⟩ : ∃ P, holF rest rules y = P := ⟨_, rfl⟩
  rw [hP] at CH CJ
  clear hP
  obtain ⟨xs, E⟩ := P
  obtain ⟨K, hK⟩ : ∃ K, calE rest rules = K := ⟨_, rfl⟩
  rw [hK] at C1 C2
  clear hK
  have CS : RowKit.Hid (∀ v u w, RdE elZ w v xs → RdE elZ w u xs → Calls Try.prog 17 #[v, u] w (RetB (.bool true) w)) := Lib.hid (fun v u w h h' => (same_any v u xs xs w h h').mono fun _ _ ⟨a, b⟩ => ⟨by rw [a]; simp, b⟩)
  rw [hcv] at CH CJ C1 C2 ⊢
  simp only at CH CJ
  unfold RetB at CS
  clear hbs hcv hr
  go_enter Try.func3, Try.ntmps3
  go_wp2_with fail
  refine (CH.out _ HB0.out).mono ?_
  rintro en w1 ⟨u1, rfl, r1, q1⟩
  have HB1 := Lib.hid (bt HB0.out q1)
  have HX1 := Lib.hid (HX0.out.next q1)
  have R1 := Lib.hid r1
  clear q1 r1
  have hbx := HX1.out
  have c0 := hbx.cell 0; have c1 := hbx.cell 1; have c2 := hbx.cell 2; have c3 := hbx.cell 3; have c4 := hbx.cell 4; have c5 := hbx.cell 5; have c6 := hbx.cell 6; have c7 := hbx.cell 7
  simp only [List.getElem?_cons_zero, List.getElem?_cons_succ] at c0 c1 c2 c3 c4 c5 c6 c7
  clear hbx
  go_wp2_with fail
  refine (CJ.out _ HB1.out).mono ?_
  rintro en w2 ⟨u2, rfl, r2, q2⟩
  have HB2 := Lib.hid (bt HB1.out q2)
  have HX2 := Lib.hid (HX1.out.next q2)
  have R2 := Lib.hid r2
  have R12 := Lib.hid (R1.out.below q2)
  clear q2 r2 c0 c1 c2 c3 c4 c5 c6 c7 CH CJ R1 HX0 HX1 HB0 HB1
  have hbx := HX2.out
  have c0 := hbx.cell 0; have c1 := hbx.cell 1; have c2 := hbx.cell 2; have c3 := hbx.cell 3; have c4 := hbx.cell 4; have c5 := hbx.cell 5; have c6 := hbx.cell 6; have c7 := hbx.cell 7
  simp only [List.getElem?_cons_zero, List.getElem?_cons_succ] at c0 c1 c2 c3 c4 c5 c6 c7
  clear hbx
  obtain ⟨a1, p1, rfl, s1, t1, z1⟩ := R12.out
  obtain ⟨a2, p2, rfl, s2, t2, z2⟩ := R2.out
  clear z1 z2 s1 t1 s2 t2
  go_wp2_with fail
  go_region_held3 (fun w' => w'.cell? ⟨w.heap.size, 0, none⟩ = some (.bool b0) ∧ w'.cell? ⟨w.heap.size, 1, none⟩ = some (.bool b1) ∧ w'.cell? ⟨w.heap.size, 2, none⟩ = some (.bool b2) ∧ w'.cell? ⟨w.heap.size, 3, none⟩ = some (.bool b3) ∧ w'.cell? ⟨w.heap.size, 4, none⟩ = some (.bool b4) ∧ w'.cell? ⟨w.heap.size, 5, none⟩ = some (.bool b5) ∧ w'.cell? ⟨w.heap.size, 6, none⟩ = some (.bool b6) ∧ w'.cell? ⟨w.heap.size, 7, none⟩ = some (.slice a rules.length cap))
    (first | go_keep | (go_split_ands; (repeat' apply And.intro) <;> first | assumption | exact kp hb1 (by assumption) | exact kp hb2 (by assumption) | exact kp hb3 (by assumption) | exact kp hb4 (by assumption)) | fail)
    (first
      | (go_at_call 14; refine (CG.out _).mono ?_; rintro en wx ⟨rfl, hb1⟩; have HB3 := Lib.hid (bd HB2.out hb1))
      | (go_at_call 15; refine (C1.out _ HB3.out).mono ?_; rintro en wx ⟨rfl, hb2⟩; have HB4 := Lib.hid (bt HB3.out hb2))
      | (go_at_call 16; refine (C2.out _ HB4.out).mono ?_; rintro en wx ⟨rfl, hb3⟩; have HB5 := Lib.hid (bt HB4.out hb3))
      | (go_at_call 17; refine (CS.out _ _ _ (R12.out.below ((bn (br _) 1).trans ((hb1.mono (by exact Nat.le_refl _)).trans (bt hb2 hb3 |>.mono hb1.size)))) (R2.out.below ((bn (br _) 1).trans ((hb1.mono (by exact Nat.le_refl _)).trans (bt hb2 hb3 |>.mono hb1.size))))).mono ?_; rintro en wx ⟨rfl, hb4⟩; have HB6 := Lib.hid (bt HB5.out hb4))
      | fail)
  go_wp2
  go_ret
  exact ⟨by first | rfl | (simp; done), HB6.out⟩
set_option maxRecDepth 100000 in
set_option maxHeartbeats 8000000 in
theorem tells_walk (rest : List Bool) (hr : rest.length = 7) (v : Value) (rules : List Rl) (n many to : Int) (w : World) (h : RdE elRl w v rules) : Calls Try.prog 6 #[cV rest v, .int .i64 n, .int .i64 many, .int .i64 to] w (RetB (.bool true) w) := by
  have HRD := Lib.hid h
  have hle := h.len_le
  obtain ⟨a, cap, rfl, g1, g2, g3⟩ := h
  clear g3
  obtain ⟨b0, b1, b2, b3, b4, b5, b6, hbs⟩ := len7 hr
  have hcv : cV rest (.slice a rules.length cap) = .agg #[.bool b0, .bool b1, .bool b2, .bool b3, .bool b4, .bool b5, .bool b6, .slice a rules.length cap] := by rw [hbs]; rfl
  have HB0 := Lib.hid ((br w).alloc (Nat.le_refl _) (.cells #[.bool b0, .bool b1, .bool b2, .bool b3, .bool b4, .bool b5, .bool b6, .slice a rules.length cap] 25))
  have HX0 := Lib.hid (Box.new w 25 (calB b0 b1 b2 b3 b4 b5 b6 (.slice a rules.length cap)))
  have CG : RowKit.Hid (∀ w, Calls Try.prog 14 #[] w fun e w' => e = .returned (.bool true) ∧ Below w.heap.size w w') := Lib.hid (fun w => begun_any w)
  have K0 : RowKit.Hid (∀ w', Below w.heap.size w w' → Calls Try.prog 20 #[cV rest (.slice a rules.length cap), .int .i64 n] w' (RetB (.tuple #[.bool (isP rest rules n).1, .int .i64 (isP rest rules n).2]) w')) := Lib.hid (fun w' hb => isP_any rest hr _ rules n w' (HRD.out.below hb))
  have K1 : RowKit.Hid (∀ w', Below w.heap.size w w' → Calls Try.prog 21 #[cV rest (.slice a rules.length cap), .int .i64 n] w' (RetB (.tuple #[.int .i64 (nextP rest rules n).1, .int .i64 (nextP rest rules n).2]) w')) := Lib.hid (fun w' hb => nextP_any rest hr _ rules n w' (HRD.out.below hb))
  have K2 : RowKit.Hid (∀ w', Below w.heap.size w w' → Calls Try.prog 18 #[cV rest (.slice a rules.length cap), .int .i64 n, .int .i64 many] w' (RetB (.tuple #[.int .i64 (addP rest rules n many).1, .int .i64 (addP rest rules n many).2]) w')) := Lib.hid (fun w' hb => addP_any rest hr _ rules n many w' (HRD.out.below hb))
  have K3 : RowKit.Hid (∀ w', Below w.heap.size w w' → Calls Try.prog 19 #[cV rest (.slice a rules.length cap), .int .i64 n, .int .i64 to] w' (RetB (.tuple #[.int .i64 (countP rest rules n to).1, .int .i64 (countP rest rules n to).2]) w')) := Lib.hid (fun w' hb => countP_any rest hr _ rules n to w' (HRD.out.below hb))
  have K4 : RowKit.Hid (∀ w', Below w.heap.size w w' → Calls Try.prog 22 #[cV rest (.slice a rules.length cap), .int .i64 n] w' (RetB (.tuple #[.bool (isP rest rules n).1, .int .i64 (isP rest rules n).2]) w')) := Lib.hid (fun w' hb => isPR_any rest hr _ rules n w' (HRD.out.below hb))
  have K5 : RowKit.Hid (∀ w', Below w.heap.size w w' → Calls Try.prog 23 #[cV rest (.slice a rules.length cap), .int .i64 n] w' (RetB (.tuple #[.int .i64 (nextP rest rules n).1, .int .i64 (nextP rest rules n).2]) w')) := Lib.hid (fun w' hb => nextPR_any rest hr _ rules n w' (HRD.out.below hb))
  have K6 : RowKit.Hid (∀ w', Below w.heap.size w w' → Calls Try.prog 24 #[cV rest (.slice a rules.length cap), .int .i64 n, .int .i64 many] w' (RetB (.tuple #[.int .i64 (addP rest rules n many).1, .int .i64 (addP rest rules n many).2]) w')) := Lib.hid (fun w' hb => addPR_any rest hr _ rules n many w' (HRD.out.below hb))
  have K7 : RowKit.Hid (∀ w', Below w.heap.size w w' → Calls Try.prog 25 #[cV rest (.slice a rules.length cap), .int .i64 n, .int .i64 to] w' (RetB (.tuple #[.int .i64 (countP rest rules n to).1, .int .i64 (countP rest rules n to).2]) w')) := Lib.hid (fun w' hb => countPR_any rest hr _ rules n to w' (HRD.out.below hb))
  obtain ⟨A, hA⟩ : ∃ A, isP rest rules n = A := ⟨_, rfl⟩
  rw [hA] at K0 K4
  clear hA
  obtain ⟨A1, A2⟩ := A
  obtain ⟨B, hB⟩ : ∃ B, nextP rest rules n = B := ⟨_, rfl⟩
  rw [hB] at K1 K5
  clear hB
  obtain ⟨B1, B2⟩ := B
  obtain ⟨C, hC⟩ : ∃ C, addP rest rules n many = C := ⟨_, rfl⟩
  rw [hC] at K2 K6
  clear hC
  obtain ⟨C1, C2⟩ := C
  obtain ⟨D, hD⟩ : ∃ D, countP rest rules n to = D := ⟨_, rfl⟩
  rw [hD] at K3 K7
  clear hD
  obtain ⟨D1, D2⟩ := D
  rw [hcv] at K0 K1 K2 K3 K4 K5 K6 K7 ⊢
  unfold RetB at K0 K1 K2 K3 K4 K5 K6 K7
  clear hbs hcv hr
  go_enter Try.func6, Try.ntmps6
  go_wp2_with fail
  refine (K0.out _ HB0.out).mono ?_
  rintro en w1 ⟨rfl, q1⟩
  have HB1 := Lib.hid (bt HB0.out q1)
  have HX1 := Lib.hid (HX0.out.next q1)
  clear q1
  have hbx := HX1.out
  have c0 := hbx.cell 0; have c1 := hbx.cell 1; have c2 := hbx.cell 2; have c3 := hbx.cell 3; have c4 := hbx.cell 4; have c5 := hbx.cell 5; have c6 := hbx.cell 6; have c7 := hbx.cell 7
  simp only [List.getElem?_cons_zero, List.getElem?_cons_succ] at c0 c1 c2 c3 c4 c5 c6 c7
  clear hbx
  go_wp2_with fail
  refine (K1.out _ HB1.out).mono ?_
  rintro en w2 ⟨rfl, q2⟩
  have HB2 := Lib.hid (bt HB1.out q2)
  have HX2 := Lib.hid (HX1.out.next q2)
  clear c0 c1 c2 c3 c4 c5 c6 c7
  clear q2
  have hbx := HX2.out
  have c0 := hbx.cell 0; have c1 := hbx.cell 1; have c2 := hbx.cell 2; have c3 := hbx.cell 3; have c4 := hbx.cell 4; have c5 := hbx.cell 5; have c6 := hbx.cell 6; have c7 := hbx.cell 7
  simp only [List.getElem?_cons_zero, List.getElem?_cons_succ] at c0 c1 c2 c3 c4 c5 c6 c7
  clear hbx
  go_wp2_with fail
  refine (K2.out _ HB2.out).mono ?_
  rintro en w3 ⟨rfl, q3⟩
  have HB3 := Lib.hid (bt HB2.out q3)
  have HX3 := Lib.hid (HX2.out.next q3)
  clear c0 c1 c2 c3 c4 c5 c6 c7
  clear q3
  have hbx := HX3.out
  have c0 := hbx.cell 0; have c1 := hbx.cell 1; have c2 := hbx.cell 2; have c3 := hbx.cell 3; have c4 := hbx.cell 4; have c5 := hbx.cell 5; have c6 := hbx.cell 6; have c7 := hbx.cell 7
  simp only [List.getElem?_cons_zero, List.getElem?_cons_succ] at c0 c1 c2 c3 c4 c5 c6 c7
  clear hbx
  go_wp2_with fail
  refine (K3.out _ HB3.out).mono ?_
  rintro en w4 ⟨rfl, q4⟩
  have HB4 := Lib.hid (bt HB3.out q4)
  have HX4 := Lib.hid (HX3.out.next q4)
  clear c0 c1 c2 c3 c4 c5 c6 c7
  clear q4
  have hbx := HX4.out
  have c0 := hbx.cell 0; have c1 := hbx.cell 1; have c2 := hbx.cell 2; have c3 := hbx.cell 3; have c4 := hbx.cell 4; have c5 := hbx.cell 5; have c6 := hbx.cell 6; have c7 := hbx.cell 7
  simp only [List.getElem?_cons_zero, List.getElem?_cons_succ] at c0 c1 c2 c3 c4 c5 c6 c7
  clear hbx
  go_wp2_with fail
  refine (K4.out _ HB4.out).mono ?_
  rintro en w5 ⟨rfl, q5⟩
  have HB5 := Lib.hid (bt HB4.out q5)
  have HX5 := Lib.hid (HX4.out.next q5)
  clear c0 c1 c2 c3 c4 c5 c6 c7
  clear q5
  have hbx := HX5.out
  have c0 := hbx.cell 0; have c1 := hbx.cell 1; have c2 := hbx.cell 2; have c3 := hbx.cell 3; have c4 := hbx.cell 4; have c5 := hbx.cell 5; have c6 := hbx.cell 6; have c7 := hbx.cell 7
  simp only [List.getElem?_cons_zero, List.getElem?_cons_succ] at c0 c1 c2 c3 c4 c5 c6 c7
  clear hbx
  go_wp2_with fail
  refine (K5.out _ HB5.out).mono ?_
  rintro en w6 ⟨rfl, q6⟩
  have HB6 := Lib.hid (bt HB5.out q6)
  have HX6 := Lib.hid (HX5.out.next q6)
  clear c0 c1 c2 c3 c4 c5 c6 c7
  clear q6
  have hbx := HX6.out
  have c0 := hbx.cell 0; have c1 := hbx.cell 1; have c2 := hbx.cell 2; have c3 := hbx.cell 3; have c4 := hbx.cell 4; have c5 := hbx.cell 5; have c6 := hbx.cell 6; have c7 := hbx.cell 7
  simp only [List.getElem?_cons_zero, List.getElem?_cons_succ] at c0 c1 c2 c3 c4 c5 c6 c7
  clear hbx
  go_wp2_with fail
  refine (K6.out _ HB6.out).mono ?_
  rintro en w7 ⟨rfl, q7⟩
  have HB7 := Lib.hid (bt HB6.out q7)
  have HX7 := Lib.hid (HX6.out.next q7)
  clear c0 c1 c2 c3 c4 c5 c6 c7
  clear q7
  have hbx := HX7.out
  have c0 := hbx.cell 0; have c1 := hbx.cell 1; have c2 := hbx.cell 2; have c3 := hbx.cell 3; have c4 := hbx.cell 4; have c5 := hbx.cell 5; have c6 := hbx.cell 6; have c7 := hbx.cell 7
  simp only [List.getElem?_cons_zero, List.getElem?_cons_succ] at c0 c1 c2 c3 c4 c5 c6 c7
  clear hbx
  go_wp2_with fail
  refine (K7.out _ HB7.out).mono ?_
  rintro en w8 ⟨rfl, q8⟩
  have HB8 := Lib.hid (bt HB7.out q8)
  have HX8 := Lib.hid (HX7.out.next q8)
  clear c0 c1 c2 c3 c4 c5 c6 c7
  clear q8
  have hbx := HX8.out
  have c0 := hbx.cell 0; have c1 := hbx.cell 1; have c2 := hbx.cell 2; have c3 := hbx.cell 3; have c4 := hbx.cell 4; have c5 := hbx.cell 5; have c6 := hbx.cell 6; have c7 := hbx.cell 7
  simp only [List.getElem?_cons_zero, List.getElem?_cons_succ] at c0 c1 c2 c3 c4 c5 c6 c7
  clear hbx
  go_wp2_with fail
  refine (CG.out _).mono ?_
  rintro en w9 ⟨rfl, q9⟩
  have HB9 := Lib.hid (bt HB8.out q9)
  have HX9 := Lib.hid (HX8.out.next q9)
  clear c0 c1 c2 c3 c4 c5 c6 c7
  clear q9
  have hbx := HX9.out
  have c0 := hbx.cell 0; have c1 := hbx.cell 1; have c2 := hbx.cell 2; have c3 := hbx.cell 3; have c4 := hbx.cell 4; have c5 := hbx.cell 5; have c6 := hbx.cell 6; have c7 := hbx.cell 7
  simp only [List.getElem?_cons_zero, List.getElem?_cons_succ] at c0 c1 c2 c3 c4 c5 c6 c7
  clear hbx
  go_wp2
  go_ret
  exact ⟨by first | rfl | (simp; done), HB9.out⟩
end Wk
end Go.Proofs.Ytjicpflgkhdppaa
