/- What is due: DuesWhole. -/
import Derived.Test.YtjicpflgkhdppaaDueLaws
import Derived.Test.YtjicpflgkhdppaaWorkTells
import Derived.Deep.RegionHeld3
set_option linter.unusedSimpArgs false
set_option linter.unusedVariables false
namespace Go.Proofs.Ytjicpflgkhdppaa
open Go.RowKit
namespace Du
open Dt Wk Sh Stb
theorem nextP_mono (rest : List Bool) (rules : List Rl) (a b x y : Int) (hab : a ≤ b) (ha : nextP rest rules a = (x, 0)) (hb : nextP rest rules b = (y, 0)) : x ≤ y := by
  have h1 := nextP_law rest rules a
  have h2 := nextP_law rest rules b
  rw [ha] at h1
  rw [hb] at h2
  rcases h1 with ⟨h, _⟩ | ⟨_, a1, a2, a3⟩
  · exact absurd rfl h
  rcases h2 with ⟨h, _⟩ | ⟨_, b1, b2, b3⟩
  · exact absurd rfl h
  simp only at a1 a2 a3 b1 b2 b3
  by_cases c : x ≤ y
  · exact c
  · have := a3 y (by omega) (by omega)
    rw [b2] at this
    exact absurd (congrArg Prod.fst this) (by decide)
theorem inst_law (rest : List Bool) (rules : List Rl) (u N s k x : Int) (h : inst rest rules u N s k = (x, 0)) : ∃ n, nthF u N s k = (n, 0) ∧ nextP rest rules n = (x, 0) ∧ s ≤ n ∧ n ≤ x ∧ isP rest rules x = (true, 0) ∧ rawT u N s k = n ∧ 1 ≤ s ∧ s ≤ 3652059 ∧ 1 ≤ N ∧ 0 ≤ k := by
  unfold inst at h
  by_cases c : (nthF u N s k).2 ≠ 0
  · rw [if_pos c] at h
    exact absurd (congrArg Prod.snd h) c
  · rw [if_neg c] at h
    rcases nth_cases u N s k with ⟨e, h1, h2⟩ | ⟨⟨u1, u2, n1, n2⟩, ⟨s1, s2, k1, k2⟩, h3, h4⟩
    · rw [h1] at c; exact absurd h2 c
    · rw [h4] at h
      have hl := nextP_law rest rules (rawT u N s k)
      simp only at h
      rw [h] at hl
      rcases hl with ⟨g, _⟩ | ⟨_, a1, a2, _⟩
      · exact absurd rfl g
      · exact ⟨_, h4, h, rawT_pos s1 s2 n1 k1, a1, a2, rfl, s1, s2, n1, k1⟩
/-- a plan that came out: instalment by instalment -/
theorem planL_all (rest : List Bool) (rules : List Rl) (u N s t m : Int) : ∀ (k : Nat), (planL rest rules u N s t m k).2 = 0 → (planL rest rules u N s t m k).1.length = k ∧ ∀ (i : Nat) (h : i < (planL rest rules u N s t m k).1.length), inst rest rules u N s i = ((planL rest rules u N s t m k).1[i].1, 0) ∧ (planL rest rules u N s t m k).1[i].2 = evenP t m i
  | 0, _ => ⟨rfl, fun i h => by simp [planL] at h⟩
  | k + 1, h => by
    have hk : (planL rest rules u N s t m k).2 = 0 := Classical.byContradiction fun c => by
      rw [planL_succ, if_pos c] at h; exact c h
    have hi : (inst rest rules u N s k).2 = 0 := Classical.byContradiction fun c => by
      rw [planL_succ, if_neg (fun g => g hk), if_pos c] at h; exact c h
    obtain ⟨l1, l2⟩ := planL_all rest rules u N s t m k hk
    have e := planL_ok rest rules u N s t m k hk hi
    have e1 : (planL rest rules u N s t m (k + 1)).1 = (planL rest rules u N s t m k).1 ++ [((inst rest rules u N s k).1, evenP t m k)] := by rw [e]
    refine ⟨by rw [e1, List.length_append, l1]; rfl, fun i hi2 => ?_⟩
    have hlen : i < k + 1 := by rw [e1, List.length_append, l1] at hi2; simpa using hi2
    by_cases c : i < k
    · obtain ⟨a, b⟩ := l2 i (by omega)
      have ee : (planL rest rules u N s t m (k + 1)).1[i] = (planL rest rules u N s t m k).1[i]'(by omega) := by
        simp only [e1]; rw [List.getElem_append_left]
      rw [ee]; exact ⟨a, b⟩
    · have : i = k := by omega
      subst this
      have ee : (planL rest rules u N s t m (i + 1)).1[i] = ((inst rest rules u N s i).1, evenP t m i) := by
        simp only [e1]; rw [List.getElem_append_right (by omega)]; simp [l1]
      rw [ee]
      exact ⟨Prod.ext rfl hi, rfl⟩
theorem planL_errE (rest : List Bool) (rules : List Rl) (u N s t m : Int) : ∀ (k : Nat), (planL rest rules u N s t m k).2 ≠ 0 → (planL rest rules u N s t m k).1 = []
  | 0, h => absurd rfl h
  | k + 1, h => by
    rw [planL_succ] at h ⊢
    by_cases c : (planL rest rules u N s t m k).2 ≠ 0
    · rw [if_pos c]; exact planL_errE rest rules u N s t m k c
    · rw [if_neg c] at h ⊢
      by_cases c2 : (inst rest rules u N s k).2 ≠ 0
      · rw [if_pos c2]
      · rw [if_neg c2] at h; exact absurd rfl h
theorem planF_err (rest : List Bool) (rules : List Rl) (u N s t m : Int) (h : (planF rest rules u N s t m).2 ≠ 0) : (planF rest rules u N s t m).1 = [] := by
  unfold planF at h ⊢
  by_cases c : evenE t m ≠ 0
  · rw [if_pos c]
  · rw [if_neg c] at h ⊢; exact planL_errE _ _ _ _ _ _ _ _ h
structure Whole (rest : List Bool) (rules : List Rl) (s t m : Int) (L : List Due) : Prop where
  len : (L.length : Int) = m
  m32 : m ≤ 32
  day : ∀ (i : Nat) (h : i < L.length), isP rest rules L[i].1 = (true, 0) ∧ s ≤ L[i].1
  up : ∀ (i j : Nat) (h : i < L.length) (g : j < L.length), i ≤ j → L[i].1 ≤ L[j].1
  pen : ∀ (i : Nat) (h : i < L.length) (h0 : 0 < L.length), L[i].2 ≤ L[0].2 ∧ L[0].2 - 1 ≤ L[i].2 ∧ okU L[i].2
  sum : total L L.length = t
  ok : chkU L = 0
theorem chkL_of : ∀ (l : List Due) (p : Option Int), (∀ s ∈ l, isD s.1 = true ∧ okU s.2) → l.Pairwise (fun a b => a.1 ≤ b.1) → (∀ x, p = some x → ∀ s ∈ l, x ≤ s.1) → chkL p l = 0
  | [], _, _, _, _ => rfl
  | a :: l, p, h, hp, hx => by
    rw [List.pairwise_cons] at hp
    obtain ⟨h1, h2⟩ := h a (by simp)
    unfold chkL
    rw [if_neg (by simp [h1]), if_neg (fun g => g h2)]
    have hb : ¬ beh p a.1 = true := by
      cases p with
      | none => simp [beh]
      | some x => have := hx x rfl a (by simp); simp [beh]; omega
    rw [if_neg hb]
    exact chkL_of l _ (fun s hs => h s (by simp [hs])) hp.2 (fun x hx s hs => by injection hx with hx; subst hx; exact hp.1 s hs)
theorem whole_law (rest : List Bool) (rules : List Rl) (u N s t m : Int) (L : List Due) (h : planF rest rules u N s t m = (L, 0)) : Whole rest rules s t m L := by
  have hE : evenE t m = 0 := Classical.byContradiction fun c => by
    unfold planF at h; rw [if_pos c] at h; exact c (congrArg Prod.snd h)
  obtain ⟨t1, t2, m1, m2⟩ := evenE_ok hE
  have hF : planL rest rules u N s t m m.toNat = (L, 0) := by unfold planF at h; rwa [if_neg (fun g => g hE)] at h
  obtain ⟨n, rfl⟩ : ∃ n : Nat, m = n := ⟨m.toNat, by omega⟩
  rw [Int.toNat_natCast] at hF
  obtain ⟨l1, l2⟩ := planL_all rest rules u N s t n n (by rw [hF])
  simp only [hF] at l1 l2
  have hq1 : 0 ≤ t / n := Int.ediv_nonneg t1 (by omega)
  have hr0 := Int.emod_nonneg t (show (n : Int) ≠ 0 by omega)
  have hr1 := Int.emod_lt_of_pos t (show (0 : Int) < n by omega)
  have hdm := Int.mul_ediv_add_emod t n
  have hq2 : t / n ≤ t := Int.ediv_le_self _ t1
  have hok : ∀ i : Nat, okU (evenP t n i) := fun i => by
    unfold okU evenP
    by_cases c : (i : Int) < t % n
    · rw [if_pos c]
      have : 2 ≤ (n : Int) := by omega
      have h3 : 2 * (t / n) ≤ n * (t / n) := Int.mul_le_mul_of_nonneg_right this hq1
      omega
    · rw [if_neg c]; omega
  have hday : ∀ (i : Nat) (h : i < L.length), isP rest rules L[i].1 = (true, 0) ∧ s ≤ L[i].1 := fun i hi => by
    obtain ⟨a, _⟩ := l2 i hi
    obtain ⟨n', _, _, b1, b2, b3, _⟩ := inst_law rest rules u N s i _ a
    exact ⟨b3, by omega⟩
  have hup : ∀ (i j : Nat) (h : i < L.length) (g : j < L.length), i ≤ j → L[i].1 ≤ L[j].1 := fun i j hi hj hij => by
    obtain ⟨a, _⟩ := l2 i hi
    obtain ⟨a', _⟩ := l2 j hj
    obtain ⟨n1, _, b2, _, _, _, b6, b7, b8, b9, b10⟩ := inst_law rest rules u N s i _ a
    obtain ⟨n2, _, d2, _, _, _, d6, _⟩ := inst_law rest rules u N s j _ a'
    have := rawT_mono (u := u) (N := N) (Int.le_refl s) b7 b8 b9 b10 (show (i : Int) ≤ (j : Int) by omega)
    exact nextP_mono rest rules n1 n2 _ _ (by omega) b2 d2
  refine ⟨by rw [l1], m2, hday, hup, fun i hi h0 => ?_, ?_, ?_⟩
  · obtain ⟨_, b⟩ := l2 i hi
    obtain ⟨_, b0⟩ := l2 0 h0
    rw [b, b0]
    refine ⟨?_, ?_, hok i⟩
    · unfold evenP; split <;> split <;> omega
    · unfold evenP; split <;> split <;> omega
  · have gen : ∀ k : Nat, k ≤ L.length → total L k = sumN k (evenP t n) := fun k => by
      induction k with
      | zero => intro _; rfl
      | succ k ih =>
        intro hk
        have e : L.getD k (0, 0) = L[k] := by simp [List.getD_eq_getElem?_getD, List.getElem?_eq_getElem (show k < L.length by omega)]
        show total L k + (L.getD k (0, 0)).2 = sumN k (evenP t n) + evenP t n k
        rw [ih (by omega), e, (l2 k (by omega)).2]
    rw [gen _ (Nat.le_refl _), l1, sum_even t n (by omega)]
    unfold leftE
    rw [if_neg (by omega)]
    have : ((n : Int) - n) = 0 := by omega
    rw [this]; omega
  · unfold chkU
    rw [if_neg (by omega)]
    refine chkL_of L none (fun d hd => ?_) ?_ (fun x hx => by cases hx)
    · obtain ⟨i, hi, rfl⟩ := List.getElem_of_mem hd
      obtain ⟨a, b⟩ := hday i hi
      refine ⟨?_, by rw [(l2 i hi).2]; exact hok i⟩
      rcases isP_law rest rules L[i].1 with h1 | ⟨_, _, h3, _⟩
      · rw [a] at h1; cases h1
      · obtain ⟨g1, g2⟩ := (inB_iff _).1 h3
        exact isD_yes g1 (by omega)
    · rw [List.pairwise_iff_getElem]
      exact fun i j hi hj hij => hup i j hi hj (by omega)
set_option maxRecDepth 100000 in
set_option maxHeartbeats 16000000 in
theorem whole_walk (rest : List Bool) (hr : rest.length = 7) (v : Value) (rules : List Rl) (s u N t m : Int) (w : World) (h : RdE elRl w v rules) :
    Calls Try.prog 11 #[cV rest v, .int .i64 s, .agg #[.int .i64 u, .int .i64 N], .int .i64 t, .int .i64 m] w (RetB (.bool true) w) := by
  have HRD := Lib.hid h
  have CP : RowKit.Hid (∀ w', Below w.heap.size w w' → Calls Try.prog 28 #[cV rest v, .int .i64 s, .agg #[.int .i64 u, .int .i64 N], .int .i64 t, .int .i64 m] w' (PlanQ (planF rest rules u N s t m) w')) := Lib.hid (fun w' hb => plan_any rest hr v rules s u N t m w' (HRD.out.below hb))
  have CI : RowKit.Hid (∀ n w', Below w.heap.size w w' → Calls Try.prog 20 #[cV rest v, .int .i64 n] w' (RetB (.tuple #[.bool (isP rest rules n).1, .int .i64 (isP rest rules n).2]) w')) := Lib.hid (fun n w' hb => isP_any rest hr v rules n w' (HRD.out.below hb))
  have CG := Lib.hid duesBegun_any
  have HW := Lib.hid (fun L => whole_law rest rules u N s t m L)
  have HE := Lib.hid (planF_err rest rules u N s t m)
  obtain ⟨a, cap, rfl, g1, g2, g3⟩ := h
  clear g3
  obtain ⟨b0, b1, b2, b3, b4, b5, b6, hbs⟩ := len7 hr
  have hcv : cV rest (.slice a rules.length cap) = .agg #[.bool b0, .bool b1, .bool b2, .bool b3, .bool b4, .bool b5, .bool b6, .slice a rules.length cap] := by rw [hbs]; rfl
  have hb0 := ((br w).alloc (Nat.le_refl _) (calO b0 b1 b2 b3 b4 b5 b6 (.slice a rules.length cap))).alloc (by simp) (.cells #[.int .i64 u, .int .i64 N] 50)
  have hx1 := (Box.new w 25 (calB b0 b1 b2 b3 b4 b5 b6 (.slice a rules.length cap))).alloc (.cells #[.int .i64 u, .int .i64 N] 50)
  have HB0 := Lib.hid hb0; have HX1 := Lib.hid hx1
  rw [hcv] at CP CI ⊢
  clear hb0 hx1 hbs hcv hr
  obtain ⟨P, hP⟩ : ∃ P, planF rest rules u N s t m = P := ⟨_, rfl⟩
  rw [hP] at CP HW HE
  clear hP
  obtain ⟨L, E⟩ := P
  unfold PlanQ at CP
  unfold RetB at CI
  simp only at CP HE
  by_cases c : E = 0
  · subst c
    have hwl := HW.out L rfl
    have HL := Lib.hid hwl
    have hlm := hwl.len
    have hm32 := hwl.m32
    have hsum := hwl.sum
    clear HW HE hwl
    go_enter Try.func11, Try.ntmps11
    go_wp2_with fail
    refine (CP.out _ HB0.out).mono ?_
    rintro en w1 ⟨v1, rfl, r1, k1⟩
    have HB1 := Lib.hid (bt HB0.out k1)
    have HY1 := Lib.hid (HX1.out.next k1)
    have R1 := Lib.hid r1
    clear k1 r1
    go_wp2_with fail
    refine (CG.out _).mono ?_
    rintro en w2 ⟨rfl, k2⟩
    have HB2 := Lib.hid (bt HB1.out k2)
    have HY2 := Lib.hid (HY1.out.next k2)
    have R2 := Lib.hid (R1.out.below k2)
    have CK : RowKit.Hid (∀ w', Below w2.heap.size w2 w' → Calls Try.prog 35 #[v1] w' (IntB 0 w')) := Lib.hid (fun w' hb => by
      have := Du.check_any v1 L w' (R2.out.below hb)
      rw [HL.out.ok] at this; exact this)
    clear k2 R1
    obtain ⟨al, cl, rfl, l1, l2, l3⟩ := R2.out
    have H3 := Lib.hid l3
    clear l3 R2
    have HT0 : RowKit.Hid (total L 0 = 0) := Lib.hid rfl
    have HTA := Lib.hid (total_at L)
    have HTB := Lib.hid (total_bd L (fun d hd => by
      obtain ⟨i, hi, rfl⟩ := List.getElem_of_mem hd
      exact (HL.out.pen i hi (by omega)).2.2))
    go_wp2
    go_loopw [13, 14] (fun sm i wr => ∃ k : Nat, k ≤ L.length ∧ i = .int .i64 k ∧ sm = .int .i64 (total L k) ∧ Below w2.heap.size w2 wr) (fun _ i _ => L.length - (intOf i).toNat)
    case atStart => exact ⟨0, Nat.zero_le _, rfl, by rw [HT0.out], br w2⟩
    case round =>
      obtain ⟨k, hk, rfl, rfl, hbw⟩ := hrel
      have HBW := Lib.hid hbw
      by_cases hlt : k < L.length
      · obtain ⟨g, off, rfl, hbl, hc⟩ := H3.out (by omega)
        have hx := HY2.out.next hbw
        have c0 := hx.cell 0; have c1 := hx.cell 1; have c2 := hx.cell 2; have c3 := hx.cell 3; have c4 := hx.cell 4; have c5 := hx.cell 5; have c6 := hx.cell 6; have c7 := hx.cell 7
        simp only [List.getElem?_cons_zero, List.getElem?_cons_succ] at c0 c1 c2 c3 c4 c5 c6 c7
        obtain ⟨q0', q1'⟩ := eU_at hc k hlt
        obtain ⟨_, z1'⟩ := eU_at hc 0 (by omega)
        have d0 := (hbw.cell (p := ⟨g, off + k * 2, none⟩) hbl).trans q0'
        have d1 := (hbw.cell (p := ⟨g, off + k * 2 + 1, none⟩) hbl).trans q1'
        have f1 := (hbw.cell (p := ⟨g, off + 0 * 2 + 1, none⟩) hbl).trans z1'
        rw [Nat.zero_mul, Nat.add_zero] at f1
        have i1 : (k : Int) < (L.length : Int) := by omega
        have i0 : (0 : Int) ≤ (k : Int) := by omega
        have il : (0 : Int) < (L.length : Int) := by omega
        obtain ⟨y1, y2⟩ := HL.out.day k hlt
        obtain ⟨y3, y4, y5⟩ := HL.out.pen k hlt (by omega)
        obtain ⟨_, _, y6⟩ := HL.out.pen 0 (by omega) (by omega)
        have CIK := Lib.hid (CI.out L[k].1)
        rw [y1] at CIK
        simp only at CIK
        have hta := HTA.out k hlt
        have htb := HTB.out k (by omega)
        unfold okU at y5 y6
        have hpv : k = 0 ∨ ∃ (j : Nat) (hj : j < L.length), k = j + 1 ∧ L[j].1 ≤ L[k].1 ∧ wr.cell? ⟨g, off + j * 2, none⟩ = some (.int .i64 L[j].1) := by
          by_cases h0 : k = 0
          · exact .inl h0
          · exact .inr ⟨k - 1, by omega, by omega, HL.out.up (k - 1) k (by omega) hlt (by omega), (hbw.cell (p := ⟨g, off + (k - 1) * 2, none⟩) hbl).trans (eU_at hc (k - 1) (by omega)).1⟩
        have HPV := Lib.hid hpv
        have HBZ := Lib.hid (HB2.out.trans (hbw.mono HB2.out.size))
        clear hpv hc q0' q1' z1' hbw hx y1 HTA HTB H3 HT0
        obtain ⟨d, hd⟩ : ∃ d, L[k].1 = d := ⟨_, rfl⟩
        obtain ⟨q, hq⟩ : ∃ q, L[k].2 = q := ⟨_, rfl⟩
        obtain ⟨z, hz⟩ : ∃ z, (L[0]'(by omega)).2 = z := ⟨_, rfl⟩
        rw [hd] at d0 y2 CIK HPV
        rw [hq] at d1 y3 y4 y5 hta
        rw [hz] at f1 y3 y4 y6
        obtain ⟨T, hT⟩ : ∃ T, total L k = T := ⟨_, rfl⟩
        rw [hT] at hta htb ⊢
        have HTT := Lib.hid hta
        have tb : T ≤ 2199023255552 * 32 := by omega
        obtain ⟨t0, _⟩ := htb
        clear hd hq hz hT hta
        have D1 : decide (d < s) = false := decide_eq_false (by omega)
        have D2 : decide (z < q) = false := decide_eq_false (by omega)
        have W1 : IntKind.i64.wrap (z - 1) = z - 1 := IntWalk.i64_in _ (by omega)
        have D3 : decide (q < z - 1) = false := decide_eq_false (by omega)
        rcases HPV.out with rfl | ⟨j, hj, rfl, hdj, ej⟩
        · simp only [Nat.zero_mul, Nat.add_zero, Int.ofNat_zero] at d0 d1 i0 i1
          have ezq : q = z := by
            have e := d1.symm.trans f1
            injection e with e; injection e
          subst ezq
          clear HPV f1
          go_wp2_with fail
          go_region_held3 (fun w' => w'.cell? ⟨w.heap.size, 0, none⟩ = some (.bool b0) ∧ w'.cell? ⟨w.heap.size, 1, none⟩ = some (.bool b1) ∧ w'.cell? ⟨w.heap.size, 2, none⟩ = some (.bool b2) ∧ w'.cell? ⟨w.heap.size, 3, none⟩ = some (.bool b3) ∧ w'.cell? ⟨w.heap.size, 4, none⟩ = some (.bool b4) ∧ w'.cell? ⟨w.heap.size, 5, none⟩ = some (.bool b5) ∧ w'.cell? ⟨w.heap.size, 6, none⟩ = some (.bool b6) ∧ w'.cell? ⟨w.heap.size, 7, none⟩ = some (.slice a rules.length cap) ∧ w'.cell? ⟨g, off, none⟩ = some (.int .i64 d))
            (first | go_keep | (go_split_ands; (repeat' apply And.intro) <;> first | assumption | exact kp hbb (by assumption)) | fail)
            (first
              | (go_at_call 20; refine (CIK.out _ (bn HBZ.out 1)).mono ?_; rintro en wb ⟨rfl, hbb⟩)
              | fail)
          have hbb2 := hbb
          have d0 := kp (bd (br wr) hbb2) d0; have d1 := kp (bd (br wr) hbb2) d1
          have HBB := Lib.hid (HBW.out.trans ((bd (br wr) hbb2).mono HBW.out.size))
          clear hbb hbb2
          go_wp2_with fail
          go_quiet (fail)
          go_wp2
          go_roundw
          case rel => exact ⟨1, by omega, by first | rfl | go_num, by rw [HTT.out], bn HBB.out _⟩
          case measure => simp [intOf]; omega
        · obtain ⟨x, hx⟩ : ∃ x, L[j].1 = x := ⟨_, rfl⟩
          rw [hx] at hdj ej
          have D4 : decide ((0 : Int) < ((j + 1 : Nat) : Int)) = true := decide_eq_true (by omega)
          have D5 : decide (d < x) = false := decide_eq_false (by omega)
          have W2 : IntKind.i64.wrap (((j + 1 : Nat) : Int) - 1) = (j : Int) := by rw [IntWalk.i64_in _ (by omega)]; omega
          have ij0 : (0 : Int) ≤ (j : Int) := by omega
          have ij1 : (j : Int) < (L.length : Int) := by omega
          have ij2 : (j : Int) + 1 < (L.length : Int) := by omega
          have ij3 : (0 : Int) ≤ (j : Int) + 1 := by omega
          have D4' : decide ((0 : Int) < (j : Int) + 1) = true := decide_eq_true (by omega)
          have W2' : IntKind.i64.wrap ((j : Int) + 1 - 1) = (j : Int) := by rw [IntWalk.i64_in _ (by omega)]; omega
          clear hx HPV
          go_wp2_with fail
          go_region_held3 (fun w' => w'.cell? ⟨w.heap.size, 0, none⟩ = some (.bool b0) ∧ w'.cell? ⟨w.heap.size, 1, none⟩ = some (.bool b1) ∧ w'.cell? ⟨w.heap.size, 2, none⟩ = some (.bool b2) ∧ w'.cell? ⟨w.heap.size, 3, none⟩ = some (.bool b3) ∧ w'.cell? ⟨w.heap.size, 4, none⟩ = some (.bool b4) ∧ w'.cell? ⟨w.heap.size, 5, none⟩ = some (.bool b5) ∧ w'.cell? ⟨w.heap.size, 6, none⟩ = some (.bool b6) ∧ w'.cell? ⟨w.heap.size, 7, none⟩ = some (.slice a rules.length cap) ∧ w'.cell? ⟨g, off + (j + 1) * 2, none⟩ = some (.int .i64 d))
            (first | go_keep | (go_split_ands; (repeat' apply And.intro) <;> first | assumption | exact kp hbb (by assumption)) | fail)
            (first
              | (go_at_call 20; refine (CIK.out _ (bn HBZ.out 1)).mono ?_; rintro en wb ⟨rfl, hbb⟩)
              | fail)
          have hbb2 := hbb
          have d0 := kp (bd (br wr) hbb2) d0; have d1 := kp (bd (br wr) hbb2) d1; have f1 := kp (bd (br wr) hbb2) f1; have ej := kp (bd (br wr) hbb2) ej
          have HBB := Lib.hid (HBW.out.trans ((bd (br wr) hbb2).mono HBW.out.size))
          clear hbb hbb2
          go_wp2_with fail
          go_quiet (fail)
          go_wp2
          go_roundw
          case rel => exact ⟨j + 1 + 1, by omega, by first | rfl | go_num, by rw [HTT.out], bn HBB.out _⟩
          case measure => simp [intOf]; omega
      · have hkk : k = L.length := by omega
        subst hkk
        rw [hsum]
        clear H3 HTA HTB hlt
        have i1 : ¬ (L.length : Int) < (L.length : Int) := by omega
        go_wp2_with fail
        refine (CK.out _ HBW.out).mono ?_
        rintro en w8 ⟨rfl, k8⟩
        have HB8 := Lib.hid (bt (HB2.out.trans (hbw.mono HB2.out.size)) k8)
        clear k8 hbw
        go_wp2
        go_ret
        exact ⟨by first | rfl | (simp; done), HB8.out⟩
  · have hL := HE.out c
    subst hL
    have hz : (E == 0) = false := by simpa using c
    clear HW HE c
    go_enter Try.func11, Try.ntmps11
    go_wp2_with fail
    refine (CP.out _ HB0.out).mono ?_
    rintro en w1 ⟨v1, rfl, r1, k1⟩
    have HB1 := Lib.hid (bt HB0.out k1)
    obtain ⟨al, cl, rfl, l1, l2, l3⟩ := r1
    clear k1 l3
    go_wp2_with fail
    refine (CG.out _).mono ?_
    rintro en w2 ⟨rfl, k2⟩
    have HB2 := Lib.hid (bt HB1.out k2)
    clear k2
    go_wp2
    go_ret
    exact ⟨by first | rfl | (simp; done), HB2.out⟩
end Du
end Go.Proofs.Ytjicpflgkhdppaa
