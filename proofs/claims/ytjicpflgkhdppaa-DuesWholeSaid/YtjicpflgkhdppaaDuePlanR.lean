/- What is due: the plan. -/
import Derived.Test.YtjicpflgkhdppaaDuePaid
set_option linter.unusedSimpArgs false
set_option linter.unusedVariables false
namespace Go.Proofs.Ytjicpflgkhdppaa
open Go.RowKit
namespace Du
open Dt Wk Sh
/-- an instalment's day -/
def inst (rest : List Bool) (rules : List Rl) (u N s : Int) (k : Int) : Int × Int := if (nthF u N s k).2 ≠ 0 then (0, (nthF u N s k).2) else nextP rest rules (nthF u N s k).1
/-- the plan's first k -/
def planL (rest : List Bool) (rules : List Rl) (u N s t m : Int) : Nat → List Due × Int
  | 0 => ([], 0)
  | k + 1 => if (planL rest rules u N s t m k).2 ≠ 0 then planL rest rules u N s t m k else if (inst rest rules u N s k).2 ≠ 0 then ([], (inst rest rules u N s k).2) else ((planL rest rules u N s t m k).1 ++ [((inst rest rules u N s k).1, evenP t m k)], 0)
def planF (rest : List Bool) (rules : List Rl) (u N s t m : Int) : List Due × Int := if evenE t m ≠ 0 then ([], evenE t m) else planL rest rules u N s t m m.toNat
theorem planL_succ (rest : List Bool) (rules : List Rl) (u N s t m : Int) (k : Nat) : planL rest rules u N s t m (k + 1) = if (planL rest rules u N s t m k).2 ≠ 0 then planL rest rules u N s t m k else if (inst rest rules u N s k).2 ≠ 0 then ([], (inst rest rules u N s k).2) else ((planL rest rules u N s t m k).1 ++ [((inst rest rules u N s k).1, evenP t m k)], 0) := rfl
theorem planL_stay (rest : List Bool) (rules : List Rl) (u N s t m : Int) (k : Nat) (h : (planL rest rules u N s t m k).2 ≠ 0) : ∀ j, planL rest rules u N s t m (k + j) = planL rest rules u N s t m k
  | 0 => rfl
  | j + 1 => by
    have ih := planL_stay rest rules u N s t m k h j
    rw [show k + (j + 1) = (k + j) + 1 by omega, planL_succ, ih, if_pos h]
theorem planL_err (rest : List Bool) (rules : List Rl) (u N s t m : Int) (k n : Nat) (hk : k < n) (h0 : (planL rest rules u N s t m k).2 = 0) (hi : (inst rest rules u N s k).2 ≠ 0) : planL rest rules u N s t m n = ([], (inst rest rules u N s k).2) := by
  have e : planL rest rules u N s t m (k + 1) = ([], (inst rest rules u N s k).2) := by
    show (if (planL rest rules u N s t m k).2 ≠ 0 then planL rest rules u N s t m k else if (inst rest rules u N s k).2 ≠ 0 then ([], (inst rest rules u N s k).2) else _) = _
    rw [if_neg (fun h => h h0), if_pos hi]
  have := planL_stay rest rules u N s t m (k + 1) (by rw [e]; exact hi) (n - (k + 1))
  rw [show k + 1 + (n - (k + 1)) = n by omega] at this
  rw [this, e]
theorem planL_ok (rest : List Bool) (rules : List Rl) (u N s t m : Int) (k : Nat) (h0 : (planL rest rules u N s t m k).2 = 0) (hi : (inst rest rules u N s k).2 = 0) : planL rest rules u N s t m (k + 1) = ((planL rest rules u N s t m k).1 ++ [((inst rest rules u N s k).1, evenP t m k)], 0) := by
  show (if (planL rest rules u N s t m k).2 ≠ 0 then planL rest rules u N s t m k else if (inst rest rules u N s k).2 ≠ 0 then ([], (inst rest rules u N s k).2) else _) = _
  rw [if_neg (fun h => h h0), if_neg (fun h => h hi)]
theorem planL_len (rest : List Bool) (rules : List Rl) (u N s t m : Int) : ∀ k : Nat, (planL rest rules u N s t m k).1.length ≤ k
  | 0 => by simp [planL]
  | k + 1 => by
    have ih := planL_len rest rules u N s t m k
    unfold planL
    split
    · omega
    · split
      · simp
      · simp; omega
abbrev plV (b0 b1 b2 b3 b4 b5 b6 : Bool) (v : Value) (u N s : Int) : Value := .agg #[.bool b0, .bool b1, .bool b2, .bool b3, .bool b4, .bool b5, .bool b6, v, .int .i64 u, .int .i64 N, .int .i64 s]
set_option maxRecDepth 100000 in
set_option maxHeartbeats 4000000 in
theorem inst_any (b0 b1 b2 b3 b4 b5 b6 : Bool) (v : Value) (rules : List Rl) (u N s k : Int) (w : World) (h : RdE elRl w v rules) : Calls Try.prog 55 #[plV b0 b1 b2 b3 b4 b5 b6 v u N s, .int .i64 k] w (PairQ (inst [b0, b1, b2, b3, b4, b5, b6] rules u N s k) w) := by
  have HRD := Lib.hid h
  obtain ⟨a, cap, rfl, g1, g2, g3⟩ := h
  clear g3
  have CT : RowKit.Hid (∀ w, Calls Try.prog 74 #[.int .i64 s, .agg #[.int .i64 u, .int .i64 N], .int .i64 k] w (PairQ (nthF u N s k) w)) := Lib.hid (fun w => nth_any s u N k w)
  have CN : RowKit.Hid (∀ n w', Below w.heap.size w w' → Calls Try.prog 21 #[.agg #[.bool b0, .bool b1, .bool b2, .bool b3, .bool b4, .bool b5, .bool b6, .slice a rules.length cap], .int .i64 n] w' (RetB (.tuple #[.int .i64 (nextP [b0, b1, b2, b3, b4, b5, b6] rules n).1, .int .i64 (nextP [b0, b1, b2, b3, b4, b5, b6] rules n).2]) w')) := Lib.hid (fun n w' hb => nextP_any [b0, b1, b2, b3, b4, b5, b6] rfl _ rules n w' (HRD.out.below hb))
  have HI : RowKit.Hid (inst [b0, b1, b2, b3, b4, b5, b6] rules u N s k = if (nthF u N s k).2 ≠ 0 then (0, (nthF u N s k).2) else nextP [b0, b1, b2, b3, b4, b5, b6] rules (nthF u N s k).1) := Lib.hid rfl
  obtain ⟨Z, hZ⟩ : ∃ Z, inst [b0, b1, b2, b3, b4, b5, b6] rules u N s k = Z := ⟨_, rfl⟩
  rw [hZ] at HI ⊢
  obtain ⟨P, hP⟩ : ∃ P, nthF u N s k = P := ⟨_, rfl⟩
  rw [hP] at CT HI
  clear hZ hP
  obtain ⟨p, e⟩ := P
  have HB0 := Lib.hid ((br w).alloc (Nat.le_refl _) (.cells #[.bool b0, .bool b1, .bool b2, .bool b3, .bool b4, .bool b5, .bool b6, .slice a rules.length cap, .int .i64 u, .int .i64 N, .int .i64 s] 81))
  have HX := Lib.hid (Box.new w 81 [.bool b0, .bool b1, .bool b2, .bool b3, .bool b4, .bool b5, .bool b6, .slice a rules.length cap, .int .i64 u, .int .i64 N, .int .i64 s])
  unfold PairQ at CT ⊢
  unfold RetB at CN
  simp only at CT HI
  show Calls Try.prog 55 #[.agg #[.bool b0, .bool b1, .bool b2, .bool b3, .bool b4, .bool b5, .bool b6, .slice a rules.length cap, .int .i64 u, .int .i64 N, .int .i64 s], _] w _
  by_cases he : e = 0
  · subst he
    have hz := HI.out
    rw [if_neg (by simp)] at hz
    have CN1 := Lib.hid (CN.out p)
    rw [← hz] at CN1
    clear hz HI CN
    go_enter Try.func55, Try.ntmps55
    go_wp2_with fail
    refine (CT.out _).mono ?_
    rintro en w1 ⟨rfl, q1⟩
    have HB1 := Lib.hid (bt HB0.out q1)
    have hx := HX.out.next q1
    have c0 := hx.cell 0; have c1 := hx.cell 1; have c2 := hx.cell 2; have c3 := hx.cell 3; have c4 := hx.cell 4; have c5 := hx.cell 5; have c6 := hx.cell 6; have c7 := hx.cell 7
    simp only [List.getElem?_cons_zero, List.getElem?_cons_succ] at c0 c1 c2 c3 c4 c5 c6 c7
    clear q1 hx
    go_wp2_with fail
    refine (CN1.out _ HB1.out).mono ?_
    rintro en w2 ⟨rfl, q2⟩
    have HB2 := Lib.hid (bt HB1.out q2)
    clear q2
    go_wp2
    go_ret2
    exact ⟨rfl, HB2.out⟩
  · have hz := HI.out
    rw [if_pos he] at hz
    rw [hz]
    have he2 : (e == 0) = false := by simpa using he
    clear hz HI CN he
    go_enter Try.func55, Try.ntmps55
    go_wp2_with fail
    refine (CT.out _).mono ?_
    rintro en w1 ⟨rfl, q1⟩
    have HB1 := Lib.hid (bt HB0.out q1)
    clear q1
    go_wp2
    go_ret2
    exact ⟨rfl, HB1.out⟩
def PlanQ (P : List Due × Int) (w : World) (e : Ending) (w' : World) : Prop := ∃ v, e = .returned (.tuple #[v, .int .i64 P.2]) ∧ RdE elU w' v P.1 ∧ Below w.heap.size w w'
set_option maxRecDepth 100000 in
set_option maxHeartbeats 8000000 in
theorem plan_any (rest : List Bool) (hr : rest.length = 7) (v : Value) (rules : List Rl) (s u N t m : Int) (w : World) (h : RdE elRl w v rules) : Calls Try.prog 28 #[cV rest v, .int .i64 s, .agg #[.int .i64 u, .int .i64 N], .int .i64 t, .int .i64 m] w (PlanQ (planF rest rules u N s t m) w) := by
  obtain ⟨b0, b1, b2, b3, b4, b5, b6, rfl⟩ := len7 hr
  have HRD := Lib.hid h
  have CE : RowKit.Hid (∀ w, Calls Try.prog 54 #[.int .i64 t, .int .i64 m] w (PairZ (evenR t m) (evenE t m) w)) := Lib.hid (fun w => even_any t m w)
  have CI : RowKit.Hid (∀ k w', Below w.heap.size w w' → Calls Try.prog 55 #[plV b0 b1 b2 b3 b4 b5 b6 v u N s, .int .i64 k] w' (PairQ (inst [b0, b1, b2, b3, b4, b5, b6] rules u N s k) w')) := Lib.hid (fun k w' hb => inst_any b0 b1 b2 b3 b4 b5 b6 v rules u N s k w' (HRD.out.below hb))
  obtain ⟨a, cap, rfl, g1, g2, g3⟩ := h
  clear g3
  have hb0 := ((br w).alloc (Nat.le_refl _) (calO b0 b1 b2 b3 b4 b5 b6 (.slice a rules.length cap))).alloc (by simp) (.cells #[.int .i64 u, .int .i64 N] 50)
  have hx1 := (Box.new w 25 (calB b0 b1 b2 b3 b4 b5 b6 (.slice a rules.length cap))).alloc (.cells #[.int .i64 u, .int .i64 N] 50)
  have hx2 := Box.new (w.alloc (calO b0 b1 b2 b3 b4 b5 b6 (.slice a rules.length cap))) 50 [.int .i64 u, .int .i64 N]
  rw [asz] at hx2
  have HB0 := Lib.hid hb0; have HX1 := Lib.hid hx1; have HX2 := Lib.hid hx2
  clear hb0 hx1 hx2
  unfold PairZ at CE
  unfold PairQ at CI
  show Calls Try.prog 28 #[.agg #[.bool b0, .bool b1, .bool b2, .bool b3, .bool b4, .bool b5, .bool b6, .slice a rules.length cap], _, _, _, _] w _
  by_cases c : evenE t m = 0
  · obtain ⟨t1, t2, m1, m2⟩ := evenE_ok c
    have hR : evenR t m = evenL t m m.toNat := by unfold evenR; rw [if_pos c]
    have hF : planF [b0, b1, b2, b3, b4, b5, b6] rules u N s t m = planL [b0, b1, b2, b3, b4, b5, b6] rules u N s t m m.toNat := by unfold planF; rw [if_neg (fun h => h c)]
    rw [c, hR] at CE
    rw [hF]
    clear c hR hF
    obtain ⟨n, rfl⟩ : ∃ n : Nat, m = n := ⟨m.toNat, by omega⟩
    rw [Int.toNat_natCast] at CE ⊢
    have HPE := Lib.hid (fun (k : Nat) (hk : k < n) => planL_err [b0, b1, b2, b3, b4, b5, b6] rules u N s t n k n hk)
    have HPO := Lib.hid (planL_ok [b0, b1, b2, b3, b4, b5, b6] rules u N s t n)
    have HPL := Lib.hid (planL_len [b0, b1, b2, b3, b4, b5, b6] rules u N s t n)
    have HP0 : RowKit.Hid (planL [b0, b1, b2, b3, b4, b5, b6] rules u N s t n 0 = ([], 0)) := Lib.hid rfl
    have HEL := Lib.hid (evenL_len t n n)
    have HEG : RowKit.Hid (∀ (k : Nat) (hk : k < n), (evenL t n n)[k]'(by rw [evenL_len]; exact hk) = evenP t n k) := Lib.hid (fun k hk => by unfold evenL; simp)
    obtain ⟨Z, hZ⟩ : ∃ Z, planL [b0, b1, b2, b3, b4, b5, b6] rules u N s t n n = Z := ⟨_, rfl⟩
    rw [hZ] at HPE ⊢
    have HZ := Lib.hid hZ
    clear hZ
    have n32 : n ≤ 32 := by omega
    unfold PlanQ
    go_enter Try.func28, Try.ntmps28
    go_wp2_with fail
    refine (CE.out _).mono ?_
    rintro en w1 ⟨v1, rfl, o1, q1⟩
    have HB1 := Lib.hid (bt HB0.out q1)
    have hx := HX1.out.next q1; have hy := HX2.out.next q1
    have c0 := hx.cell 0; have c1 := hx.cell 1; have c2 := hx.cell 2; have c3 := hx.cell 3; have c4 := hx.cell 4; have c5 := hx.cell 5; have c6 := hx.cell 6; have c7 := hx.cell 7
    have e0 := hy.cell 0; have e1 := hy.cell 1
    simp only [List.getElem?_cons_zero, List.getElem?_cons_succ] at c0 c1 c2 c3 c4 c5 c6 c7 e0 e1
    have ro := o1.rd
    have HOB := Lib.hid (fun g (hg : v1.ownBlock = some g) => (o1.lt g hg))
    obtain ⟨a1, p1, rfl, s1, z1, r1⟩ := ro
    have R1 := Lib.hid r1
    have hle1 : (evenL t n n).length = n := HEL.out
    clear r1 q1 hx hy o1 HB0 HX1 HX2
    rw [hle1]
    have HBX := Lib.hid (Box.new w1 81 [.bool b0, .bool b1, .bool b2, .bool b3, .bool b4, .bool b5, .bool b6, .slice a rules.length cap, .int .i64 u, .int .i64 N, .int .i64 s])
    have HB2 := Lib.hid (HB1.out.alloc HB1.out.size (.cells #[.bool b0, .bool b1, .bool b2, .bool b3, .bool b4, .bool b5, .bool b6, .slice a rules.length cap, .int .i64 u, .int .i64 N, .int .i64 s] 81))
    have hbw1 := HB1.out.size
    clear hle1
    have HRI := Lib.hid (fun g hg => (HOB.out g hg).1)
    go_wp2
    go_loopw [15, 35] (fun sl i wr => ∃ k : Nat, k ≤ n ∧ i = .int .i64 k ∧ (planL [b0, b1, b2, b3, b4, b5, b6] rules u N s t n k).2 = 0 ∧ ROwn elU wr (w1.heap.size + 1) sl (planL [b0, b1, b2, b3, b4, b5, b6] rules u N s t n k).1 ∧ Below w1.heap.size w1 wr ∧ Box wr w1.heap.size 81 [.bool b0, .bool b1, .bool b2, .bool b3, .bool b4, .bool b5, .bool b6, .slice a rules.length cap, .int .i64 u, .int .i64 N, .int .i64 s]) (fun _ i _ => n - (intOf i).toNat)
    case atStart => exact ⟨0, Nat.zero_le _, rfl, by rw [HP0.out], by rw [HP0.out]; exact ROwn.nil _ _, (br w1).alloc (Nat.le_refl _) _, HBX.out⟩
    case round =>
      obtain ⟨k, hk, rfl, hk0, hown, hb1, hbx⟩ := hrel
      have HK0 := Lib.hid hk0; have HOWN := Lib.hid hown; have HBK := Lib.hid hb1; have HX := Lib.hid hbx
      have HLN := Lib.hid (HPL.out k)
      clear hk0 hown c0 c1 c2 c3 c4 c5 c6 c7 e0 e1 HBX HB2
      have c0 := hbx.cell 0; have c1 := hbx.cell 1; have c2 := hbx.cell 2; have c3 := hbx.cell 3; have c4 := hbx.cell 4; have c5 := hbx.cell 5; have c6 := hbx.cell 6; have c7 := hbx.cell 7; have c8 := hbx.cell 8; have c9 := hbx.cell 9; have c10 := hbx.cell 10
      simp only [List.getElem?_cons_zero, List.getElem?_cons_succ] at c0 c1 c2 c3 c4 c5 c6 c7 c8 c9 c10
      clear hbx
      by_cases hlt : k < n
      · obtain ⟨g, off, rfl, hbl, hc⟩ := R1.out (by rw [HEL.out]; omega)
        have d0' := eI_at hc k (by rw [HEL.out]; exact hlt)
        rw [HEG.out k hlt] at d0'
        have d0 := (hb1.cell (p := ⟨g, off + k, none⟩) hbl).trans d0'
        have i1 : (k : Int) < (n : Int) := by omega
        have i0 : (0 : Int) ≤ (k : Int) := by omega
        have CIK := Lib.hid (CI.out k wr (HB1.out.trans (hb1.mono HB1.out.size)))
        have HPEK := Lib.hid (HPE.out k hlt HK0.out)
        have HPOK := Lib.hid (HPO.out k HK0.out)
        clear hc d0' hb1 R1 HPE HPO HEG HEL HPL HP0 HOB HRI
        obtain ⟨q, hq⟩ : ∃ q, evenP t n k = q := ⟨_, rfl⟩
        rw [hq] at d0 HPOK
        obtain ⟨I, hI⟩ : ∃ I, inst [b0, b1, b2, b3, b4, b5, b6] rules u N s k = I := ⟨_, rfl⟩
        rw [hI] at CIK HPEK HPOK
        clear hq hI
        obtain ⟨p, e⟩ := I
        obtain ⟨L, hL⟩ : ∃ L, (planL [b0, b1, b2, b3, b4, b5, b6] rules u N s t n k).1 = L := ⟨_, rfl⟩
        rw [hL] at HOWN HPOK HLN
        clear hL HK0
        simp only at CIK HPEK HPOK
        by_cases he : e = 0
        · subst he
          have HNX := Lib.hid (HPOK.out rfl)
          have hln : L.length ≤ 32 := by have := HLN.out; omega
          clear HPOK HPEK HLN
          go_wp2_with fail
          refine CIK.out.mono ?_
          rintro en w2 ⟨rfl, q2⟩
          have HO2 := Lib.hid (HOWN.out.next q2)
          have HX2 := Lib.hid (HX.out.next q2)
          have HK2 := Lib.hid (HBK.out.trans (q2.mono HBK.out.size))
          clear q2
          go_wp2_with (at_builtin; refine appE elU rfl (.tmp 49) (.tmp 53) rfl (w1.heap.size + 1) _ L rfl (HO2.out.next ((br _).alloc (Nat.le_refl _) _)) _ [(p, q)] rfl (rd_lit elU [(p, q)] _ _ _ _ rfl (by simp [maxLen])) (by simp only [List.length_cons, List.length_nil]; unfold maxLen; omega) (by show (L.length + 1) * 16 ≤ _; omega) (by have := HX2.out.lt; simp; omega) ?_; intro v9 w9 ho9 hb9 hf9; have HO9 := Lib.hid ho9; have HX9 := Lib.hid ((HX2.out.alloc _).of_block (hf9 _ (by have := HX2.out.lt; simp; omega) (fun h => by have := (HO2.out.lt _ h).1; omega))); have HK9 := Lib.hid ((HK2.out.alloc HK2.out.size _).trans (hb9.mono (Nat.le_succ _))); clear ho9 hb9 hf9)
          go_roundw
          case rel => exact ⟨k + 1, by omega, by first | rfl | go_num, by rw [HNX.out], by rw [HNX.out]; exact HO9.out, HK9.out, HX9.out⟩
          case measure => simp [intOf]; omega
        · have HZE := Lib.hid (HPEK.out he)
          have he2 : (e == 0) = false := by simpa using he
          clear HPOK HPEK HLN he
          go_wp2_with fail
          refine CIK.out.mono ?_
          rintro en w2 ⟨rfl, q2⟩
          have HB3 := Lib.hid (bt (HB1.out.trans (HBK.out.mono HB1.out.size)) q2)
          clear q2
          go_wp2
          go_ret2
          exact ⟨_, by rw [HZE.out]; rfl, by rw [HZE.out]; exact Rd.nil _, HB3.out⟩
      · have hkk : k = n := by omega
        subst hkk
        rw [HZ.out] at HK0 HOWN
        have HB3 := Lib.hid (HB1.out.trans (hb1.mono HB1.out.size))
        clear hb1
        go_wp2
        go_ret2
        exact ⟨_, by rw [HK0.out]; rfl, HOWN.out.rd, HB3.out⟩
  · have hR : evenR t m = [] := by unfold evenR; rw [if_neg c]
    have hF : planF [b0, b1, b2, b3, b4, b5, b6] rules u N s t m = ([], evenE t m) := by unfold planF; rw [if_pos c]
    rw [hR] at CE
    rw [hF]
    obtain ⟨E, hE⟩ : ∃ E, evenE t m = E := ⟨_, rfl⟩
    rw [hE] at CE c ⊢
    have hz : (E == 0) = false := by simpa using c
    clear hE c hR hF CI
    unfold PlanQ
    go_enter Try.func28, Try.ntmps28
    go_wp2_with fail
    refine (CE.out _).mono ?_
    rintro en w1 ⟨v1, rfl, o1, q1⟩
    have HB1 := Lib.hid (bt HB0.out q1)
    obtain ⟨a1, p1, rfl, s1, z1, r1⟩ := o1.rd
    clear q1 o1 r1
    go_wp2
    go_ret2
    exact ⟨_, rfl, Rd.nil _, HB1.out⟩
end Du
end Go.Proofs.Ytjicpflgkhdppaa
/- What is due: the document's plan. -/
set_option linter.unusedVariables false
namespace Go.Proofs.Ytjicpflgkhdppaa
open Go.RowKit
namespace Du
open Dt Wk Sh
set_option maxRecDepth 100000 in
set_option maxHeartbeats 8000000 in
theorem planR_any (rest : List Bool) (hr : rest.length = 7) (v : Value) (rules : List Rl) (s u N t m : Int) (w : World) (h : RdE elRl w v rules) : Calls Try.prog 30 #[cV rest v, .int .i64 s, .agg #[.int .i64 u, .int .i64 N], .int .i64 t, .int .i64 m] w (PlanQ (planF rest rules u N s t m) w) := by
  obtain ⟨b0, b1, b2, b3, b4, b5, b6, rfl⟩ := len7 hr
  have HRD := Lib.hid h
  have CE : RowKit.Hid (∀ w, Calls Try.prog 56 #[.int .i64 t, .int .i64 m] w (PairZ (evenR t m) (evenE t m) w)) := Lib.hid (fun w => parts_any t m w)
  have CT : RowKit.Hid (∀ k w, Calls Try.prog 57 #[.int .i64 s, .agg #[.int .i64 u, .int .i64 N], .int .i64 k] w (PairQ (nthF u N s k) w)) := Lib.hid (fun k w => nthR_any s u N k w)
  have CN : RowKit.Hid (∀ n w', Below w.heap.size w w' → Calls Try.prog 23 #[cV [b0, b1, b2, b3, b4, b5, b6] v, .int .i64 n] w' (RetB (.tuple #[.int .i64 (nextP [b0, b1, b2, b3, b4, b5, b6] rules n).1, .int .i64 (nextP [b0, b1, b2, b3, b4, b5, b6] rules n).2]) w')) := Lib.hid (fun n w' hb => nextPR_any [b0, b1, b2, b3, b4, b5, b6] rfl _ rules n w' (HRD.out.below hb))
  obtain ⟨a, cap, rfl, g1, g2, g3⟩ := h
  clear g3
  have hcv : cV [b0, b1, b2, b3, b4, b5, b6] (.slice a rules.length cap) = .agg #[.bool b0, .bool b1, .bool b2, .bool b3, .bool b4, .bool b5, .bool b6, .slice a rules.length cap] := rfl
  rw [hcv] at CN ⊢
  clear hcv
  have hb0 := ((br w).alloc (Nat.le_refl _) (calO b0 b1 b2 b3 b4 b5 b6 (.slice a rules.length cap))).alloc (by simp) (.cells #[.int .i64 u, .int .i64 N] 50)
  have hx1 := (Box.new w 25 (calB b0 b1 b2 b3 b4 b5 b6 (.slice a rules.length cap))).alloc (.cells #[.int .i64 u, .int .i64 N] 50)
  have hx2 := Box.new (w.alloc (calO b0 b1 b2 b3 b4 b5 b6 (.slice a rules.length cap))) 50 [.int .i64 u, .int .i64 N]
  rw [asz] at hx2
  have HB0 := Lib.hid hb0; have HX1 := Lib.hid hx1; have HX2 := Lib.hid hx2
  clear hb0 hx1 hx2
  unfold PairZ at CE
  unfold PairQ at CT
  unfold RetB at CN
  by_cases c : evenE t m = 0
  · obtain ⟨t1, t2, m1, m2⟩ := evenE_ok c
    have hR : evenR t m = evenL t m m.toNat := by unfold evenR; rw [if_pos c]
    have hF : planF [b0, b1, b2, b3, b4, b5, b6] rules u N s t m = planL [b0, b1, b2, b3, b4, b5, b6] rules u N s t m m.toNat := by unfold planF; rw [if_neg (fun h => h c)]
    rw [c, hR] at CE
    rw [hF]
    clear c hR hF
    obtain ⟨n, rfl⟩ : ∃ n : Nat, m = n := ⟨m.toNat, by omega⟩
    rw [Int.toNat_natCast] at CE ⊢
    have HPE := Lib.hid (fun (k : Nat) (hk : k < n) => planL_err [b0, b1, b2, b3, b4, b5, b6] rules u N s t n k n hk)
    have HPO := Lib.hid (planL_ok [b0, b1, b2, b3, b4, b5, b6] rules u N s t n)
    have HPL := Lib.hid (planL_len [b0, b1, b2, b3, b4, b5, b6] rules u N s t n)
    have HP0 : RowKit.Hid (planL [b0, b1, b2, b3, b4, b5, b6] rules u N s t n 0 = ([], 0)) := Lib.hid rfl
    have HEL := Lib.hid (evenL_len t n n)
    have HEG : RowKit.Hid (∀ (k : Nat) (hk : k < n), (evenL t n n)[k]'(by rw [evenL_len]; exact hk) = evenP t n k) := Lib.hid (fun k hk => by unfold evenL; simp)
    have HI : RowKit.Hid (∀ k, inst [b0, b1, b2, b3, b4, b5, b6] rules u N s k = if (nthF u N s k).2 ≠ 0 then (0, (nthF u N s k).2) else nextP [b0, b1, b2, b3, b4, b5, b6] rules (nthF u N s k).1) := Lib.hid (fun _ => rfl)
    obtain ⟨Z, hZ⟩ : ∃ Z, planL [b0, b1, b2, b3, b4, b5, b6] rules u N s t n n = Z := ⟨_, rfl⟩
    rw [hZ] at HPE ⊢
    have HZ := Lib.hid hZ
    clear hZ
    have n32 : n ≤ 32 := by omega
    unfold PlanQ
    go_enter Try.func30, Try.ntmps30
    go_wp2_with fail
    refine (CE.out _).mono ?_
    rintro en w1 ⟨v1, rfl, o1, q1⟩
    have HB1 := Lib.hid (bt HB0.out q1)
    have HY1 := Lib.hid (HX1.out.next q1); have HY2 := Lib.hid (HX2.out.next q1)
    obtain ⟨a1, p1, rfl, s1, z1, r1⟩ := o1.rd
    have R1 := Lib.hid r1
    have hle1 : (evenL t n n).length = n := HEL.out
    clear r1 q1 o1 HB0 HX1 HX2
    rw [hle1]
    clear hle1
    go_wp2
    go_loopw [14, 15] (fun sl i wr => ∃ k : Nat, k ≤ n ∧ i = .int .i64 k ∧ (planL [b0, b1, b2, b3, b4, b5, b6] rules u N s t n k).2 = 0 ∧ ROwn elU wr w1.heap.size sl (planL [b0, b1, b2, b3, b4, b5, b6] rules u N s t n k).1 ∧ Below w1.heap.size w1 wr) (fun _ i _ => n - (intOf i).toNat)
    case atStart => exact ⟨0, Nat.zero_le _, rfl, by rw [HP0.out], by rw [HP0.out]; exact ROwn.nil _ _, br w1⟩
    case round =>
      obtain ⟨k, hk, rfl, hk0, hown, hb1⟩ := hrel
      have HK0 := Lib.hid hk0; have HOWN := Lib.hid hown; have HBK := Lib.hid hb1
      have HLN := Lib.hid (HPL.out k)
      have hx := HY1.out.next hb1; have hy := HY2.out.next hb1
      have HX := Lib.hid hx; have HY := Lib.hid hy
      have c0 := hx.cell 0; have c1 := hx.cell 1; have c2 := hx.cell 2; have c3 := hx.cell 3; have c4 := hx.cell 4; have c5 := hx.cell 5; have c6 := hx.cell 6; have c7 := hx.cell 7
      have e0 := hy.cell 0; have e1 := hy.cell 1
      simp only [List.getElem?_cons_zero, List.getElem?_cons_succ] at c0 c1 c2 c3 c4 c5 c6 c7 e0 e1
      clear hk0 hown hx hy
      by_cases hlt : k < n
      · obtain ⟨g, off, rfl, hbl, hc⟩ := R1.out (by rw [HEL.out]; omega)
        have d0 := eI_at hc k (by rw [HEL.out]; exact hlt)
        rw [HEG.out k hlt] at d0
        have i1 : (k : Int) < (n : Int) := by omega
        have i0 : (0 : Int) ≤ (k : Int) := by omega
        have HBW := Lib.hid (HB1.out.trans (hb1.mono HB1.out.size))
        have HPEK := Lib.hid (HPE.out k hlt HK0.out)
        have HPOK := Lib.hid (HPO.out k HK0.out)
        have CTK := Lib.hid (CT.out k)
        have HIK := HI.out k
        clear hc R1 HPE HPO HEG HEL HPL HP0
        obtain ⟨q, hq⟩ : ∃ q, evenP t n k = q := ⟨_, rfl⟩
        rw [hq] at d0 HPOK
        have D0 := Lib.hid d0
        obtain ⟨I, hI⟩ : ∃ I, inst [b0, b1, b2, b3, b4, b5, b6] rules u N s k = I := ⟨_, rfl⟩
        rw [hI] at HIK HPEK HPOK
        obtain ⟨T, hT⟩ : ∃ T, nthF u N s k = T := ⟨_, rfl⟩
        rw [hT] at HIK CTK
        clear hq hI hT d0
        obtain ⟨L, hL⟩ : ∃ L, (planL [b0, b1, b2, b3, b4, b5, b6] rules u N s t n k).1 = L := ⟨_, rfl⟩
        rw [hL] at HOWN HPOK HLN
        clear hL HK0
        obtain ⟨T1, T2⟩ := T
        simp only at CTK HIK
        by_cases ht : T2 = 0
        · subst ht
          rw [if_neg (by simp)] at HIK
          have CNK := Lib.hid (CN.out T1)
          rw [← HIK] at CNK
          clear HIK HI CN CT
          obtain ⟨p, e⟩ := I
          simp only at CNK HPEK HPOK
          by_cases he : e = 0
          · subst he
            have HNX := Lib.hid (HPOK.out rfl)
            have hln : L.length ≤ 32 := by have := HLN.out; omega
            clear HPOK HPEK HLN
            go_wp2_with fail
            refine (CTK.out _).mono ?_
            rintro en w2 ⟨rfl, q2⟩
            have HB2 := Lib.hid (bt HBW.out q2)
            have HO2 := Lib.hid (HOWN.out.next q2)
            have HK2 := Lib.hid (HBK.out.trans (q2.mono HBK.out.size))
            have hx := HX.out.next q2
            clear q2 c0 c1 c2 c3 c4 c5 c6 c7
            have c0 := hx.cell 0; have c1 := hx.cell 1; have c2 := hx.cell 2; have c3 := hx.cell 3; have c4 := hx.cell 4; have c5 := hx.cell 5; have c6 := hx.cell 6; have c7 := hx.cell 7
            simp only [List.getElem?_cons_zero, List.getElem?_cons_succ] at c0 c1 c2 c3 c4 c5 c6 c7
            clear hx
            go_wp2_with fail
            refine (CNK.out _ HB2.out).mono ?_
            rintro en w3 ⟨rfl, q3⟩
            have HO3 := Lib.hid (HO2.out.next q3)
            have hk3 := HK2.out.trans (q3.mono HK2.out.size)
            have HK3 := Lib.hid hk3
            have d0 := (hk3.cell (p := ⟨g, off + k, none⟩) hbl).trans D0.out
            clear q3 hk3
            go_wp2_with (at_builtin; refine appE elU rfl (.tmp 50) (.tmp 57) rfl w1.heap.size _ L rfl (HO3.out.next ((br _).alloc (Nat.le_refl _) _)) _ [(p, q)] rfl (rd_lit elU [(p, q)] _ _ _ _ rfl (by simp [maxLen])) (by simp only [List.length_cons, List.length_nil]; unfold maxLen; omega) (by show (L.length + 1) * 16 ≤ _; omega) (by have := HK3.out.size; simp; omega) ?_; intro v9 w9 ho9 hb9 hf9; have HO9 := Lib.hid ho9; have HK9 := Lib.hid ((HK3.out.alloc HK3.out.size _).trans hb9); clear ho9 hb9 hf9)
            go_roundw
            case rel => exact ⟨k + 1, by omega, by first | rfl | go_num, by rw [HNX.out], by rw [HNX.out]; exact HO9.out, HK9.out⟩
            case measure => simp [intOf]; omega
          · have HZE := Lib.hid (HPEK.out he)
            have he2 : (e == 0) = false := by simpa using he
            clear HPOK HPEK HLN he
            go_wp2_with fail
            refine (CTK.out _).mono ?_
            rintro en w2 ⟨rfl, q2⟩
            have HB2 := Lib.hid (bt HBW.out q2)
            have hx := HX.out.next q2
            clear q2 c0 c1 c2 c3 c4 c5 c6 c7
            have c0 := hx.cell 0; have c1 := hx.cell 1; have c2 := hx.cell 2; have c3 := hx.cell 3; have c4 := hx.cell 4; have c5 := hx.cell 5; have c6 := hx.cell 6; have c7 := hx.cell 7
            simp only [List.getElem?_cons_zero, List.getElem?_cons_succ] at c0 c1 c2 c3 c4 c5 c6 c7
            clear hx
            go_wp2_with fail
            refine (CNK.out _ HB2.out).mono ?_
            rintro en w3 ⟨rfl, q3⟩
            have HB3 := Lib.hid (bt HB2.out q3)
            clear q3
            go_wp2
            go_ret2
            exact ⟨_, by rw [HZE.out]; rfl, by rw [HZE.out]; exact Rd.nil _, HB3.out⟩
        · rw [if_pos ht] at HIK
          subst HIK
          have HZE := Lib.hid (HPEK.out ht)
          have he2 : (T2 == 0) = false := by simpa using ht
          clear HPOK HPEK HLN ht
          go_wp2_with fail
          refine (CTK.out _).mono ?_
          rintro en w2 ⟨rfl, q2⟩
          have HB2 := Lib.hid (bt HBW.out q2)
          clear q2
          go_wp2
          go_ret2
          exact ⟨_, by rw [HZE.out]; rfl, by rw [HZE.out]; exact Rd.nil _, HB2.out⟩
      · have hkk : k = n := by omega
        subst hkk
        rw [HZ.out] at HK0 HOWN
        have HB3 := Lib.hid (HB1.out.trans (hb1.mono HB1.out.size))
        clear hb1
        go_wp2
        go_ret2
        exact ⟨_, by rw [HK0.out]; rfl, HOWN.out.rd, HB3.out⟩
  · have hR : evenR t m = [] := by unfold evenR; rw [if_neg c]
    have hF : planF [b0, b1, b2, b3, b4, b5, b6] rules u N s t m = ([], evenE t m) := by unfold planF; rw [if_pos c]
    rw [hR] at CE
    rw [hF]
    obtain ⟨E, hE⟩ : ∃ E, evenE t m = E := ⟨_, rfl⟩
    rw [hE] at CE c ⊢
    have hz : (E == 0) = false := by simpa using c
    clear hE c hR hF CN CT
    unfold PlanQ
    go_enter Try.func30, Try.ntmps30
    go_wp2_with fail
    refine (CE.out _).mono ?_
    rintro en w1 ⟨v1, rfl, o1, q1⟩
    have HB1 := Lib.hid (bt HB0.out q1)
    obtain ⟨a1, p1, rfl, s1, z1, r1⟩ := o1.rd
    clear q1 o1 r1
    go_wp2
    go_ret2
    exact ⟨_, rfl, Rd.nil _, HB1.out⟩
end Du
end Go.Proofs.Ytjicpflgkhdppaa
