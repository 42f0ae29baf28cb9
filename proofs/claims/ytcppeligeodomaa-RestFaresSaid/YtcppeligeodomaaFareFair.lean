/- Fares: fair fares: a range over the ranges. -/
import Derived.Test.YtcppeligeodomaaFareRanges
import Derived.Test.YtcppeligeodomaaFareMendP
import Derived.Test.YtcppeligeodomaaRoundQuiet
set_option linter.unusedVariables false
namespace Go.Proofs.Ytcppeligeodomaa
open Go.RowKit Go.Shelf
attribute [local go_sem] Oper.semAt_some
namespace Fa
theorem price_int (v : Value) (rs : List Rw) (x y : Int) (X Y : Nat) (hX : x = (X : Int)) (hY : y = (Y : Int)) (w w' : World) (h : RdF w v rs) (hb : Below w.heap.size w w') (hok : Ok (mat rs)) (hxy : X ≤ Y) (hy : Y < rs.length) : Calls Try.prog 38 #[v, .int .i64 x, .int .i64 y] w' fun e w'' => e = .returned (.int .i64 (price (mat rs) X Y)) ∧ w'' = w' := by
  subst hX hY
  exact (price_any v rs X Y w' (h.next hb) hok hxy hy).mono fun e w2 ⟨h1, h2⟩ => ⟨h1, h2.symm⟩
theorem rowE_N (s : Nat) : ∀ k a, rowE s k a = (rowN s k a).map (fun q => ((q.1 : Int), (q.2 : Int)))
  | 0, _ => rfl
  | k + 1, a => by simp only [rowE, rowN, List.map_cons, rowE_N s k (a + 1)]; rw [Int.natCast_add]
theorem allE_N (n : Nat) : ∀ k s, allE n k s = (allN n k s).map (fun q => ((q.1 : Int), (q.2 : Int)))
  | 0, _ => rfl
  | k + 1, s => by simp only [allE, allN, List.map_append, allE_N n k (s + 1), rowE_N]
theorem rng_vals {N : Nat} {ys : List (Rg N)} (h : ys.map Rg.out = rngE N) : ys.map (·.1) = rngN N := by
  have e : (ys.map (·.1)).map (fun q : Nat × Nat => ((q.1 : Int), (q.2 : Int))) = (rngN N).map (fun q => ((q.1 : Int), (q.2 : Int))) := by
    have e2 : rngE N = (rngN N).map (fun q => ((q.1 : Int), (q.2 : Int))) := allE_N N N 0
    rw [← e2, ← h, List.map_map]; rfl
  exact (List.map_inj_right (fun x y hxy => by
    injection hxy with h1 h2
    exact Prod.ext (by omega) (by omega))).1 e
theorem rng_all {N : Nat} {ys : List (Rg N)} (h : ys.map Rg.out = rngE N) (x : Rg N) : x ∈ ys := by
  have : x.1 ∈ ys.map (·.1) := by rw [rng_vals h]; exact (mem_rngN N x.1).2 x.2
  obtain ⟨y, hy, e⟩ := List.mem_map.1 this
  rw [← Subtype.ext e]; exact hy
theorem keeps_drewN (B : Nat) (W : World) (k : Nat) : KeepsFrom B W (W.drewN k) := ⟨Nat.le_refl _, fun _ _ _ h _ => h⟩
/-- what the code looks at -/
def StepAll (m : List (List Int)) {N : Nat} (pre : List (Rg N)) : Prop := ∀ x ∈ pre, Step m x.1.1 x.1.2
set_option maxRecDepth 100000 in
set_option maxHeartbeats 8000000 in
theorem fair_in (r : Bool) (v : Value) (rs : List Rw) (w : World) (h : RdF w v rs) (hok : Ok (mat rs)) (hr : r = true ↔ ∀ x : Rg rs.length, Step (mat rs) x.1.1 x.1.2) :
    CallsIn Fence.wide 5 Try.prog 36 #[v] w fun e w' => e = .returned (.bool r) ∧ Below w.heap.size w w' := by
  have hml : (mat rs).length = rs.length := List.length_map _
  have hsix := hok.six
  rw [hml] at hsix
  have hrd := h
  obtain ⟨a0, cap, rfl, -, -, -⟩ := h.rd
  refine callsIn_of_wp_marks Try.func36 rfl trivial ?_ rfl
  simp only [Try.ntmps36, List.size_toArray, List.length_cons, List.length_nil, Nat.reduceAdd, Nat.reduceSub, Array.replicate_succ, Array.replicate_zero, List.push_toArray, List.append_toArray, List.nil_append, List.cons_append]
  gi_wp2_with fail
  refine ⟨trivial, (callsIn_wide.2 (ranges_in rs.length _)).mono ?_⟩
  rintro e w' ⟨rfl, rfl⟩
  gi_wp2
  have bF := Boxed.new w 23 (.slice a0 rs.length cap)
  have bR := Boxed.new (w.alloc (.cells #[.slice a0 rs.length cap] 23)) 4 (.bool false)
  have bN := Boxed.new ((w.alloc (.cells #[.slice a0 rs.length cap] 23)).alloc (.cells #[.bool false] 4)) 3 (.int .i64 rs.length)
  have bX := Boxed.new (((w.alloc (.cells #[.slice a0 rs.length cap] 23)).alloc (.cells #[.bool false] 4)).alloc (.cells #[.int .i64 rs.length] 3)) 3 (.int .i64 rs.length)
  simp only [World.size_alloc] at bR bN bX
  have hB0 : Below w.heap.size w ((((w.alloc (.cells #[.slice a0 rs.length cap] 23)).alloc (.cells #[.bool false] 4)).alloc (.cells #[.int .i64 rs.length] 3)).alloc (.cells #[.int .i64 rs.length] 3)) := ((((Below.refl _ w).alloc (Nat.le_refl _) _).alloc (by simp) _).alloc (by simp; omega) _).alloc (by simp; omega) _
  have bF4 := ((bF.alloc (.cells #[.bool false] 4)).alloc (.cells #[.int .i64 rs.length] 3)).alloc (.cells #[.int .i64 rs.length] 3)
  have bR4 := (bR.alloc (.cells #[.int .i64 rs.length] 3)).alloc (.cells #[.int .i64 rs.length] 3)
  have bN4 := bN.alloc (.cells #[.int .i64 rs.length] 3)
  have hsz : ((((w.alloc (.cells #[.slice a0 rs.length cap] 23)).alloc (.cells #[.bool false] 4)).alloc (.cells #[.int .i64 rs.length] 3)).alloc (.cells #[.int .i64 rs.length] 3)).heap.size = w.heap.size + 4 := by simp
  clear bF bR bN
  obtain ⟨W0, hW0⟩ : ∃ W0, (((w.alloc (.cells #[.slice a0 rs.length cap] 23)).alloc (.cells #[.bool false] 4)).alloc (.cells #[.int .i64 rs.length] 3)).alloc (.cells #[.int .i64 rs.length] 3) = W0 := ⟨_, rfl⟩
  rw [hW0] at bF4 bR4 bN4 bX hB0 hsz ⊢
  clear hW0
  have PC : RowKit.Hid (∀ (x y : Int) (X Y : Nat) (v : Int), x = (X : Int) → y = (Y : Int) → X ≤ Y → Y < rs.length → price (mat rs) X Y = v → ∀ n W', Below w.heap.size w W' → CallsIn Fence.wide n Try.prog 38 #[.slice a0 rs.length cap, .int .i64 x, .int .i64 y] W' fun e w'' => e = .returned (.int .i64 v) ∧ W' = w'') := Lib.hid (fun x y X Y v h1 h2 h3 h4 h5 n W' hb => by
    subst h5
    exact callsIn_wide.2 ((price_int _ rs x y X Y h1 h2 w W' hrd hb hok h3 h4).mono fun e w2 h => ⟨h.1, h.2.symm⟩))
  have PB : RowKit.Hid (∀ (X Y : Nat), X ≤ Y → Y < rs.length → 0 ≤ price (mat rs) X Y ∧ price (mat rs) X Y ≤ 1000000) := Lib.hid (fun X Y h1 h2 => price_ok hok h1 (by rw [hml]; exact h2))
  have HR := Lib.hid hr
  have HML := Lib.hid hml
  clear hr hml hrd h hok
  refine wpIn_rangeFunc_ownG rfl (by omega) (gf := 58) (lb := #[.pointer (some ⟨w.heap.size + 1 + 1 + 1, 0, none⟩)]) rfl trivial (enters_of Try.func58 (by kernel_rfl) rfl)
    (ranges_stops 4 (w.heap.size + 1 + 1 + 1) rs.length hsix _ (by omega) bX.cell) (fun h k => k.trans h) (fun W l o o' hl _ _ _ => World.putObj_heap_other (by omega)) (Below.refl _ _) (fun _ => rfl)
    (fun pre W => (((StepAll (mat rs) pre ∧ Boxed W w.heap.size 23 (.slice a0 rs.length cap)) ∧ Boxed W (w.heap.size + 1) 4 (.bool false)) ∧ Boxed W (w.heap.size + 1 + 1) 3 (.int .i64 rs.length)) ∧ Below w.heap.size w W)
    (fun c pre W => ((c = .ret ∧ ¬ StepAll (mat rs) pre) ∧ Boxed W (w.heap.size + 1) 4 (.bool false)) ∧ Below w.heap.size w W)
    (OwnFrom.and (OwnFrom.and (OwnFrom.and (OwnFrom.and (ownFrom_pure _ _) (Own.from (boxed_own _ _ _) _)) (Own.from (boxed_own _ _ _) _)) (Own.from (boxed_own _ _ _) _)) (ownFrom_below (Nat.le_refl _) (by omega)))
    (fun c => OwnFrom.and (OwnFrom.and (ownFrom_pure _ _) (Own.from (boxed_own _ _ _) _)) (ownFrom_below (Nat.le_refl _) (by omega)))
    ⟨⟨⟨⟨fun x hx => by simp at hx, bF4⟩, bR4⟩, bN4⟩, hB0⟩
    (fun x => { tmps := #[.slice a0 rs.length cap, .pointer (some ⟨w.heap.size, 0, none⟩), .pointer (some ⟨w.heap.size + 1, 0, none⟩), .pointer (some ⟨w.heap.size + 1 + 1, 0, none⟩), .int .i64 x.1.1, .int .i64 x.1.2, undef, undef, .slice a0 rs.length cap, .int .i64 rs.length, .int .i64 rs.length, .func (.func 58) #[] #[.pointer (some ⟨w.heap.size + 1 + 1 + 1, 0, none⟩)], .int .i64 x.1.1, .int .i64 x.1.2, undef, undef, undef, undef, undef, undef, undef, undef, undef, undef, undef, undef, undef, undef, undef, undef, undef, undef, undef, undef, undef, undef, undef, undef, undef, undef, undef, undef, undef, undef, undef, undef, undef, undef, undef, undef, undef, undef, undef, undef, undef, undef, undef, undef, undef, undef, undef, undef], defers := [] }) ?assign ?body ?done ?stop
  case assign =>
    intro l x W K hK
    gi_wp2
    exact hK
  case body =>
    rintro l pre ⟨⟨a, b⟩, hab, hb⟩ W ⟨⟨⟨⟨hS, bF⟩, bR⟩, bN⟩, hB⟩ hlt
    simp only at hab hb
    have cF := bF.cell
    have cN := bN.cell
    have cR := bR.cell
    have fR := bR.frozen
    have HS := Lib.hid hS; have BF := Lib.hid bF; have BR := Lib.hid bR; have BN := Lib.hid bN; have HB := Lib.hid hB
    clear hS bF bR bN hB hB0 bF4 bR4 bN4 bX hlt
    obtain ⟨p, hp⟩ : ∃ p, price (mat rs) a b = p := ⟨_, rfl⟩
    have HP := Lib.hid hp
    have hbd := PB.out a b hab hb
    rw [hp] at hbd
    have hbd1 := hbd.1
    have hbd2 := hbd.2
    clear hbd hp
    have hfP : Fence.wide.fn 38 := trivial
    have HGO : RowKit.Hid (¬ (0 < a ∧ price (mat rs) (a - 1) b < p) → ¬ (b + 1 < rs.length ∧ price (mat rs) a (b + 1) < p) → (∀ c, a ≤ c → c < b → p ≤ price (mat rs) a c + price (mat rs) (c + 1) b) → StepAll (mat rs) (pre ++ [(⟨(a, b), hab, hb⟩ : Rg rs.length)])) := Lib.hid (fun h1 h2 h3 x hx => by
      rcases List.mem_append.1 hx with hx | hx
      · exact HS.out x hx
      · simp only [List.mem_singleton] at hx
        subst hx
        refine ⟨fun h0 => ?_, fun h0 => ?_, fun c g1 g2 => ?_⟩
        · show price (mat rs) a b ≤ price (mat rs) (a - 1) b
          rw [HP.out]; exact Int.not_lt.1 (fun h => h1 ⟨h0, h⟩)
        · show price (mat rs) a b ≤ price (mat rs) a (b + 1)
          rw [HML.out] at h0
          rw [HP.out]; exact Int.not_lt.1 (fun h => h2 ⟨h0, h⟩)
        · show price (mat rs) a b ≤ price (mat rs) a c + price (mat rs) (c + 1) b
          rw [HP.out]; exact h3 c g1 g2)
    by_cases hl : 0 < a ∧ price (mat rs) (a - 1) b < p
    · obtain ⟨ha0, hl⟩ := hl
      have hnot : ¬ StepAll (mat rs) (pre ++ [(⟨(a, b), hab, hb⟩ : Rg rs.length)]) := fun hall => by
        have : price (mat rs) a b ≤ price (mat rs) (a - 1) b := (hall ⟨(a, b), hab, hb⟩ (by simp)).left ha0
        rw [HP.out] at this; omega
      have HN := Lib.hid hnot
      obtain ⟨q, hq⟩ : ∃ q, price (mat rs) (a - 1) b = q := ⟨_, rfl⟩
      rw [hq] at hl
      have HQ := Lib.hid hq
      have ia0 : (0 : Int) < (a : Int) := by omega
      clear hq hnot HGO
      gi_wp2_with ((first | gi_at_call 38 | refine ⟨trivial, ?_⟩); gi_at_call 38; (first | with_reducible refine (CallsIn.inRound l (PC.out (a : Int) (b : Int) a b p rfl rfl hab hb HP.out _ _ HB.out)).mono ?_ | with_reducible refine (CallsIn.inRound l (PC.out ((a : Int) - 1) (b : Int) (a - 1) b q (by omega) rfl (by omega) hb HQ.out _ _ HB.out)).mono ?_); rintro e w' ⟨rfl, rfl⟩)
      all_goals first | (exfalso; have hh := ‹some undef = some (Value.bool _)›; injection hh with hh; cases hh; done) | exact ⟨(KeepsOthers.setCell _ _ _).from _, ⟨⟨rfl, HN.out⟩, BR.out.set _⟩, HB.out.setCell (p := ⟨w.heap.size + 1, 0, none⟩) (by simp) _⟩
    by_cases hr2 : b + 1 < rs.length ∧ price (mat rs) a (b + 1) < p
    · obtain ⟨hb1, hr2⟩ := hr2
      have hnot : ¬ StepAll (mat rs) (pre ++ [(⟨(a, b), hab, hb⟩ : Rg rs.length)]) := fun hall => by
        have : price (mat rs) a b ≤ price (mat rs) a (b + 1) := (hall ⟨(a, b), hab, hb⟩ (by simp)).right (by rw [HML.out]; exact hb1)
        rw [HP.out] at this; omega
      have HN := Lib.hid hnot
      obtain ⟨q2, hq2⟩ : ∃ q, price (mat rs) a (b + 1) = q := ⟨_, rfl⟩
      rw [hq2] at hr2
      have HQ2 := Lib.hid hq2
      have ib1 : (b : Int) + 1 < (rs.length : Int) := by omega
      clear hq2 hnot HGO
      by_cases ha0 : 0 < a
      · have hl' : ¬ price (mat rs) (a - 1) b < p := fun h => hl ⟨ha0, h⟩
        obtain ⟨q, hq⟩ : ∃ q, price (mat rs) (a - 1) b = q := ⟨_, rfl⟩
        rw [hq] at hl'
        have HQ := Lib.hid hq
        have ia0 : (0 : Int) < (a : Int) := by omega
        clear hq hl
        gi_wp2_with ((first | gi_at_call 38 | refine ⟨trivial, ?_⟩); gi_at_call 38; (first | with_reducible refine (CallsIn.inRound l (PC.out (a : Int) (b : Int) a b p rfl rfl hab hb HP.out _ _ HB.out)).mono ?_ | with_reducible refine (CallsIn.inRound l (PC.out ((a : Int) - 1) (b : Int) (a - 1) b q (by omega) rfl (by omega) hb HQ.out _ _ HB.out)).mono ?_ | with_reducible refine (CallsIn.inRound l (PC.out (a : Int) ((b : Int) + 1) a (b + 1) q2 rfl (by omega) (by omega) (by omega) HQ2.out _ _ HB.out)).mono ?_); rintro e w' ⟨rfl, rfl⟩)
        exact ⟨(KeepsOthers.setCell _ _ _).from _, ⟨⟨rfl, HN.out⟩, BR.out.set _⟩, HB.out.setCell (p := ⟨w.heap.size + 1, 0, none⟩) (by simp) _⟩
      · have ia0 : ¬ (0 : Int) < (a : Int) := by omega
        clear hl
        gi_wp2_with ((first | gi_at_call 38 | refine ⟨trivial, ?_⟩); gi_at_call 38; (first | with_reducible refine (CallsIn.inRound l (PC.out (a : Int) (b : Int) a b p rfl rfl hab hb HP.out _ _ HB.out)).mono ?_ | with_reducible refine (CallsIn.inRound l (PC.out (a : Int) ((b : Int) + 1) a (b + 1) q2 rfl (by omega) (by omega) (by omega) HQ2.out _ _ HB.out)).mono ?_); rintro e w' ⟨rfl, rfl⟩)
        exact ⟨(KeepsOthers.setCell _ _ _).from _, ⟨⟨rfl, HN.out⟩, BR.out.set _⟩, HB.out.setCell (p := ⟨w.heap.size + 1, 0, none⟩) (by simp) _⟩
    have HGO2 := Lib.hid (HGO.out hl hr2)
    clear HGO
    obtain ⟨q, hq⟩ : ∃ q, price (mat rs) (a - 1) b = q := ⟨_, rfl⟩
    obtain ⟨q2, hq2⟩ : ∃ q, price (mat rs) a (b + 1) = q := ⟨_, rfl⟩
    rw [hq] at hl
    rw [hq2] at hr2
    have HQ := Lib.hid hq; have HQ2 := Lib.hid hq2
    clear hq hq2
    have hcl : (0 < a ∧ ¬ q < p) ∨ ¬ 0 < a := by
      by_cases h : 0 < a
      · exact .inl ⟨h, fun h2 => hl ⟨h, h2⟩⟩
      · exact .inr h
    have hcr : (b + 1 < rs.length ∧ ¬ q2 < p) ∨ ¬ b + 1 < rs.length := by
      by_cases h : b + 1 < rs.length
      · exact .inl ⟨h, fun h2 => hr2 ⟨h, h2⟩⟩
      · exact .inr h
    clear hl hr2
    rcases hcl with ⟨ha0, hl⟩ | ha0 <;> rcases hcr with ⟨hb1, hr2⟩ | hb1
    case inl.inl =>
      have ia0 : (0 : Int) < (a : Int) := by omega
      have ib1 : (b : Int) + 1 < (rs.length : Int) := by omega
      gi_wp2_with ((first | gi_at_call 38 | refine ⟨trivial, ?_⟩); gi_at_call 38; (first | with_reducible refine (CallsIn.inRound l (PC.out (a : Int) (b : Int) a b p rfl rfl hab hb HP.out _ _ HB.out)).mono ?_ | with_reducible refine (CallsIn.inRound l (PC.out ((a : Int) - 1) (b : Int) (a - 1) b q (by omega) rfl (by omega) hb HQ.out _ _ HB.out)).mono ?_ | with_reducible refine (CallsIn.inRound l (PC.out (a : Int) ((b : Int) + 1) a (b + 1) q2 rfl (by omega) (by omega) (by omega) HQ2.out _ _ HB.out)).mono ?_); rintro e w' ⟨rfl, rfl⟩)
      gi_loopw [7] (fun i wr => ∃ (m k : Nat), a ≤ m ∧ m ≤ b ∧ i = .int .i64 m ∧ (∀ c, a ≤ c → c < m → p ≤ price (mat rs) a c + price (mat rs) (c + 1) b) ∧ wr = W.drewN k) (fun i _ => b - (intOf i).toNat)
      case atStart => exact ⟨a, 0, Nat.le_refl _, hab, rfl, fun c h1 h2 => by omega, rfl⟩
      case round =>
        obtain ⟨m, k, ham, hmb, rfl, hpart, rfl⟩ := hrel
        have HPT := Lib.hid hpart
        by_cases hlt : m < b
        · have im : (m : Int) < (b : Int) := by omega
          obtain ⟨p1, hp1⟩ : ∃ q, price (mat rs) a m = q := ⟨_, rfl⟩
          obtain ⟨p2, hp2⟩ : ∃ q, price (mat rs) (m + 1) b = q := ⟨_, rfl⟩
          have g1 := PB.out a m ham (by omega)
          have g2 := PB.out (m + 1) b hlt hb
          rw [hp1] at g1
          rw [hp2] at g2
          have g3 := g1.1; have g4 := g1.2; have g5 := g2.1; have g6 := g2.2
          have HP1 := Lib.hid hp1; have HP2 := Lib.hid hp2
          by_cases hs : p1 + p2 < p
          · have hnot : ¬ StepAll (mat rs) (pre ++ [(⟨(a, b), hab, hb⟩ : Rg rs.length)]) := fun hall => by
              have : price (mat rs) a b ≤ price (mat rs) a m + price (mat rs) (m + 1) b := (hall ⟨(a, b), hab, hb⟩ (by simp)).part m ham hlt
              rw [HP.out, hp1, hp2] at this; omega
            have HN := Lib.hid hnot
            clear hnot hp1 hp2 g1 g2 hpart
            gi_wp2
            refine wpIn_region_quiet_round rfl (by kernel_rfl) (by kernel_rfl) (by kernel_rfl) ?_
            iterate 4 (gi_big_quiet_step (fail))
            gi_big_quiet_step ((gi_at_call 38; with_reducible exact qaIn (PC.out (a : Int) (m : Int) a m p1 rfl rfl ham (by omega) HP1.out _ _ (bn HB.out _))))
            iterate 4 (gi_big_quiet_step (fail))
            gi_big_quiet_step ((gi_at_call 38; with_reducible exact qaIn (PC.out ((m : Int) + 1) (b : Int) (m + 1) b p2 (by omega) rfl (by omega) hb HP2.out _ _ (bn HB.out _))))
            iterate 2 (gi_big_quiet_step (fail))
            refine wpQuietIn_nil ?_
            intro _ hw'
            obtain ⟨nq, hw''⟩ := hw'
            subst hw''
            gi_wp2
            exact ⟨(keeps_drewN _ W (k + nq)).trans ((KeepsOthers.setCell _ _ _).from _), ⟨⟨rfl, HN.out⟩, (show Boxed (W.drewN (k + nq)) _ _ _ from BR.out).set _⟩, (bn HB.out _).setCell (p := ⟨w.heap.size + 1, 0, none⟩) (by simp) _⟩
          · have hall2 : ∀ c, a ≤ c → c < m + 1 → p ≤ price (mat rs) a c + price (mat rs) (c + 1) b := fun c h1 h2 => by
              by_cases e : c = m
              · subst e; rw [hp1, hp2]; omega
              · exact hpart c h1 (by omega)
            have HA2 := Lib.hid hall2
            clear hall2 hp1 hp2 g1 g2 hpart
            gi_wp2
            refine wpIn_region_quiet_round rfl (by kernel_rfl) (by kernel_rfl) (by kernel_rfl) ?_
            iterate 4 (gi_big_quiet_step (fail))
            gi_big_quiet_step ((gi_at_call 38; with_reducible exact qaIn (PC.out (a : Int) (m : Int) a m p1 rfl rfl ham (by omega) HP1.out _ _ (bn HB.out _))))
            iterate 4 (gi_big_quiet_step (fail))
            gi_big_quiet_step ((gi_at_call 38; with_reducible exact qaIn (PC.out ((m : Int) + 1) (b : Int) (m + 1) b p2 (by omega) rfl (by omega) hb HP2.out _ _ (bn HB.out _))))
            iterate 2 (gi_big_quiet_step (fail))
            refine wpQuietIn_nil ?_
            intro _ hw'
            obtain ⟨nq, hw''⟩ := hw'
            subst hw''
            gi_wp2
            go_roundw
            case rel => exact ⟨m + 1, k + nq, by omega, by omega, by go_num, HA2.out, by first | rfl | simp⟩
            case measure => simp [intOf]; omega
        · have im : ¬ (m : Int) < (b : Int) := by omega
          have hm : m = b := by omega
          subst hm
          have HGF := Lib.hid (HGO2.out hpart)
          clear hpart
          gi_wp2
          exact ⟨keeps_drewN _ W k, rfl, ⟨⟨⟨HGF.out, BF.out⟩, BR.out⟩, BN.out⟩, bn HB.out _⟩
    case inl.inr =>
      have ia0 : (0 : Int) < (a : Int) := by omega
      have ib1 : ¬ (b : Int) + 1 < (rs.length : Int) := by omega
      gi_wp2_with ((first | gi_at_call 38 | refine ⟨trivial, ?_⟩); gi_at_call 38; (first | with_reducible refine (CallsIn.inRound l (PC.out (a : Int) (b : Int) a b p rfl rfl hab hb HP.out _ _ HB.out)).mono ?_ | with_reducible refine (CallsIn.inRound l (PC.out ((a : Int) - 1) (b : Int) (a - 1) b q (by omega) rfl (by omega) hb HQ.out _ _ HB.out)).mono ?_); rintro e w' ⟨rfl, rfl⟩)
      gi_loopw [7] (fun i wr => ∃ (m k : Nat), a ≤ m ∧ m ≤ b ∧ i = .int .i64 m ∧ (∀ c, a ≤ c → c < m → p ≤ price (mat rs) a c + price (mat rs) (c + 1) b) ∧ wr = W.drewN k) (fun i _ => b - (intOf i).toNat)
      case atStart => exact ⟨a, 0, Nat.le_refl _, hab, rfl, fun c h1 h2 => by omega, rfl⟩
      case round =>
        obtain ⟨m, k, ham, hmb, rfl, hpart, rfl⟩ := hrel
        have HPT := Lib.hid hpart
        by_cases hlt : m < b
        · have im : (m : Int) < (b : Int) := by omega
          obtain ⟨p1, hp1⟩ : ∃ q, price (mat rs) a m = q := ⟨_, rfl⟩
          obtain ⟨p2, hp2⟩ : ∃ q, price (mat rs) (m + 1) b = q := ⟨_, rfl⟩
          have g1 := PB.out a m ham (by omega)
          have g2 := PB.out (m + 1) b hlt hb
          rw [hp1] at g1
          rw [hp2] at g2
          have g3 := g1.1; have g4 := g1.2; have g5 := g2.1; have g6 := g2.2
          have HP1 := Lib.hid hp1; have HP2 := Lib.hid hp2
          by_cases hs : p1 + p2 < p
          · have hnot : ¬ StepAll (mat rs) (pre ++ [(⟨(a, b), hab, hb⟩ : Rg rs.length)]) := fun hall => by
              have : price (mat rs) a b ≤ price (mat rs) a m + price (mat rs) (m + 1) b := (hall ⟨(a, b), hab, hb⟩ (by simp)).part m ham hlt
              rw [HP.out, hp1, hp2] at this; omega
            have HN := Lib.hid hnot
            clear hnot hp1 hp2 g1 g2 hpart
            gi_wp2
            refine wpIn_region_quiet_round rfl (by kernel_rfl) (by kernel_rfl) (by kernel_rfl) ?_
            iterate 4 (gi_big_quiet_step (fail))
            gi_big_quiet_step ((gi_at_call 38; with_reducible exact qaIn (PC.out (a : Int) (m : Int) a m p1 rfl rfl ham (by omega) HP1.out _ _ (bn HB.out _))))
            iterate 4 (gi_big_quiet_step (fail))
            gi_big_quiet_step ((gi_at_call 38; with_reducible exact qaIn (PC.out ((m : Int) + 1) (b : Int) (m + 1) b p2 (by omega) rfl (by omega) hb HP2.out _ _ (bn HB.out _))))
            iterate 2 (gi_big_quiet_step (fail))
            refine wpQuietIn_nil ?_
            intro _ hw'
            obtain ⟨nq, hw''⟩ := hw'
            subst hw''
            gi_wp2
            exact ⟨(keeps_drewN _ W (k + nq)).trans ((KeepsOthers.setCell _ _ _).from _), ⟨⟨rfl, HN.out⟩, (show Boxed (W.drewN (k + nq)) _ _ _ from BR.out).set _⟩, (bn HB.out _).setCell (p := ⟨w.heap.size + 1, 0, none⟩) (by simp) _⟩
          · have hall2 : ∀ c, a ≤ c → c < m + 1 → p ≤ price (mat rs) a c + price (mat rs) (c + 1) b := fun c h1 h2 => by
              by_cases e : c = m
              · subst e; rw [hp1, hp2]; omega
              · exact hpart c h1 (by omega)
            have HA2 := Lib.hid hall2
            clear hall2 hp1 hp2 g1 g2 hpart
            gi_wp2
            refine wpIn_region_quiet_round rfl (by kernel_rfl) (by kernel_rfl) (by kernel_rfl) ?_
            iterate 4 (gi_big_quiet_step (fail))
            gi_big_quiet_step ((gi_at_call 38; with_reducible exact qaIn (PC.out (a : Int) (m : Int) a m p1 rfl rfl ham (by omega) HP1.out _ _ (bn HB.out _))))
            iterate 4 (gi_big_quiet_step (fail))
            gi_big_quiet_step ((gi_at_call 38; with_reducible exact qaIn (PC.out ((m : Int) + 1) (b : Int) (m + 1) b p2 (by omega) rfl (by omega) hb HP2.out _ _ (bn HB.out _))))
            iterate 2 (gi_big_quiet_step (fail))
            refine wpQuietIn_nil ?_
            intro _ hw'
            obtain ⟨nq, hw''⟩ := hw'
            subst hw''
            gi_wp2
            go_roundw
            case rel => exact ⟨m + 1, k + nq, by omega, by omega, by go_num, HA2.out, by first | rfl | simp⟩
            case measure => simp [intOf]; omega
        · have im : ¬ (m : Int) < (b : Int) := by omega
          have hm : m = b := by omega
          subst hm
          have HGF := Lib.hid (HGO2.out hpart)
          clear hpart
          gi_wp2
          exact ⟨keeps_drewN _ W k, rfl, ⟨⟨⟨HGF.out, BF.out⟩, BR.out⟩, BN.out⟩, bn HB.out _⟩
    case inr.inl =>
      have ia0 : ¬ (0 : Int) < (a : Int) := by omega
      have ib1 : (b : Int) + 1 < (rs.length : Int) := by omega
      gi_wp2_with ((first | gi_at_call 38 | refine ⟨trivial, ?_⟩); gi_at_call 38; (first | with_reducible refine (CallsIn.inRound l (PC.out (a : Int) (b : Int) a b p rfl rfl hab hb HP.out _ _ HB.out)).mono ?_ | with_reducible refine (CallsIn.inRound l (PC.out (a : Int) ((b : Int) + 1) a (b + 1) q2 rfl (by omega) (by omega) (by omega) HQ2.out _ _ HB.out)).mono ?_); rintro e w' ⟨rfl, rfl⟩)
      gi_loopw [7] (fun i wr => ∃ (m k : Nat), a ≤ m ∧ m ≤ b ∧ i = .int .i64 m ∧ (∀ c, a ≤ c → c < m → p ≤ price (mat rs) a c + price (mat rs) (c + 1) b) ∧ wr = W.drewN k) (fun i _ => b - (intOf i).toNat)
      case atStart => exact ⟨a, 0, Nat.le_refl _, hab, rfl, fun c h1 h2 => by omega, rfl⟩
      case round =>
        obtain ⟨m, k, ham, hmb, rfl, hpart, rfl⟩ := hrel
        have HPT := Lib.hid hpart
        by_cases hlt : m < b
        · have im : (m : Int) < (b : Int) := by omega
          obtain ⟨p1, hp1⟩ : ∃ q, price (mat rs) a m = q := ⟨_, rfl⟩
          obtain ⟨p2, hp2⟩ : ∃ q, price (mat rs) (m + 1) b = q := ⟨_, rfl⟩
          have g1 := PB.out a m ham (by omega)
          have g2 := PB.out (m + 1) b hlt hb
          rw [hp1] at g1
          rw [hp2] at g2
          have g3 := g1.1; have g4 := g1.2; have g5 := g2.1; have g6 := g2.2
          have HP1 := Lib.hid hp1; have HP2 := Lib.hid hp2
          by_cases hs : p1 + p2 < p
          · have hnot : ¬ StepAll (mat rs) (pre ++ [(⟨(a, b), hab, hb⟩ : Rg rs.length)]) := fun hall => by
              have : price (mat rs) a b ≤ price (mat rs) a m + price (mat rs) (m + 1) b := (hall ⟨(a, b), hab, hb⟩ (by simp)).part m ham hlt
              rw [HP.out, hp1, hp2] at this; omega
            have HN := Lib.hid hnot
            clear hnot hp1 hp2 g1 g2 hpart
            gi_wp2
            refine wpIn_region_quiet_round rfl (by kernel_rfl) (by kernel_rfl) (by kernel_rfl) ?_
            iterate 4 (gi_big_quiet_step (fail))
            gi_big_quiet_step ((gi_at_call 38; with_reducible exact qaIn (PC.out (a : Int) (m : Int) a m p1 rfl rfl ham (by omega) HP1.out _ _ (bn HB.out _))))
            iterate 4 (gi_big_quiet_step (fail))
            gi_big_quiet_step ((gi_at_call 38; with_reducible exact qaIn (PC.out ((m : Int) + 1) (b : Int) (m + 1) b p2 (by omega) rfl (by omega) hb HP2.out _ _ (bn HB.out _))))
            iterate 2 (gi_big_quiet_step (fail))
            refine wpQuietIn_nil ?_
            intro _ hw'
            obtain ⟨nq, hw''⟩ := hw'
            subst hw''
            gi_wp2
            exact ⟨(keeps_drewN _ W (k + nq)).trans ((KeepsOthers.setCell _ _ _).from _), ⟨⟨rfl, HN.out⟩, (show Boxed (W.drewN (k + nq)) _ _ _ from BR.out).set _⟩, (bn HB.out _).setCell (p := ⟨w.heap.size + 1, 0, none⟩) (by simp) _⟩
          · have hall2 : ∀ c, a ≤ c → c < m + 1 → p ≤ price (mat rs) a c + price (mat rs) (c + 1) b := fun c h1 h2 => by
              by_cases e : c = m
              · subst e; rw [hp1, hp2]; omega
              · exact hpart c h1 (by omega)
            have HA2 := Lib.hid hall2
            clear hall2 hp1 hp2 g1 g2 hpart
            gi_wp2
            refine wpIn_region_quiet_round rfl (by kernel_rfl) (by kernel_rfl) (by kernel_rfl) ?_
            iterate 4 (gi_big_quiet_step (fail))
            gi_big_quiet_step ((gi_at_call 38; with_reducible exact qaIn (PC.out (a : Int) (m : Int) a m p1 rfl rfl ham (by omega) HP1.out _ _ (bn HB.out _))))
            iterate 4 (gi_big_quiet_step (fail))
            gi_big_quiet_step ((gi_at_call 38; with_reducible exact qaIn (PC.out ((m : Int) + 1) (b : Int) (m + 1) b p2 (by omega) rfl (by omega) hb HP2.out _ _ (bn HB.out _))))
            iterate 2 (gi_big_quiet_step (fail))
            refine wpQuietIn_nil ?_
            intro _ hw'
            obtain ⟨nq, hw''⟩ := hw'
            subst hw''
            gi_wp2
            go_roundw
            case rel => exact ⟨m + 1, k + nq, by omega, by omega, by go_num, HA2.out, by first | rfl | simp⟩
            case measure => simp [intOf]; omega
        · have im : ¬ (m : Int) < (b : Int) := by omega
          have hm : m = b := by omega
          subst hm
          have HGF := Lib.hid (HGO2.out hpart)
          clear hpart
          gi_wp2
          exact ⟨keeps_drewN _ W k, rfl, ⟨⟨⟨HGF.out, BF.out⟩, BR.out⟩, BN.out⟩, bn HB.out _⟩
    case inr.inr =>
      have ia0 : ¬ (0 : Int) < (a : Int) := by omega
      have ib1 : ¬ (b : Int) + 1 < (rs.length : Int) := by omega
      gi_wp2_with ((first | gi_at_call 38 | refine ⟨trivial, ?_⟩); gi_at_call 38; (first | with_reducible refine (CallsIn.inRound l (PC.out (a : Int) (b : Int) a b p rfl rfl hab hb HP.out _ _ HB.out)).mono ?_); rintro e w' ⟨rfl, rfl⟩)
      gi_loopw [7] (fun i wr => ∃ (m k : Nat), a ≤ m ∧ m ≤ b ∧ i = .int .i64 m ∧ (∀ c, a ≤ c → c < m → p ≤ price (mat rs) a c + price (mat rs) (c + 1) b) ∧ wr = W.drewN k) (fun i _ => b - (intOf i).toNat)
      case atStart => exact ⟨a, 0, Nat.le_refl _, hab, rfl, fun c h1 h2 => by omega, rfl⟩
      case round =>
        obtain ⟨m, k, ham, hmb, rfl, hpart, rfl⟩ := hrel
        have HPT := Lib.hid hpart
        by_cases hlt : m < b
        · have im : (m : Int) < (b : Int) := by omega
          obtain ⟨p1, hp1⟩ : ∃ q, price (mat rs) a m = q := ⟨_, rfl⟩
          obtain ⟨p2, hp2⟩ : ∃ q, price (mat rs) (m + 1) b = q := ⟨_, rfl⟩
          have g1 := PB.out a m ham (by omega)
          have g2 := PB.out (m + 1) b hlt hb
          rw [hp1] at g1
          rw [hp2] at g2
          have g3 := g1.1; have g4 := g1.2; have g5 := g2.1; have g6 := g2.2
          have HP1 := Lib.hid hp1; have HP2 := Lib.hid hp2
          by_cases hs : p1 + p2 < p
          · have hnot : ¬ StepAll (mat rs) (pre ++ [(⟨(a, b), hab, hb⟩ : Rg rs.length)]) := fun hall => by
              have : price (mat rs) a b ≤ price (mat rs) a m + price (mat rs) (m + 1) b := (hall ⟨(a, b), hab, hb⟩ (by simp)).part m ham hlt
              rw [HP.out, hp1, hp2] at this; omega
            have HN := Lib.hid hnot
            clear hnot hp1 hp2 g1 g2 hpart
            gi_wp2
            refine wpIn_region_quiet_round rfl (by kernel_rfl) (by kernel_rfl) (by kernel_rfl) ?_
            iterate 4 (gi_big_quiet_step (fail))
            gi_big_quiet_step ((gi_at_call 38; with_reducible exact qaIn (PC.out (a : Int) (m : Int) a m p1 rfl rfl ham (by omega) HP1.out _ _ (bn HB.out _))))
            iterate 4 (gi_big_quiet_step (fail))
            gi_big_quiet_step ((gi_at_call 38; with_reducible exact qaIn (PC.out ((m : Int) + 1) (b : Int) (m + 1) b p2 (by omega) rfl (by omega) hb HP2.out _ _ (bn HB.out _))))
            iterate 2 (gi_big_quiet_step (fail))
            refine wpQuietIn_nil ?_
            intro _ hw'
            obtain ⟨nq, hw''⟩ := hw'
            subst hw''
            gi_wp2
            exact ⟨(keeps_drewN _ W (k + nq)).trans ((KeepsOthers.setCell _ _ _).from _), ⟨⟨rfl, HN.out⟩, (show Boxed (W.drewN (k + nq)) _ _ _ from BR.out).set _⟩, (bn HB.out _).setCell (p := ⟨w.heap.size + 1, 0, none⟩) (by simp) _⟩
          · have hall2 : ∀ c, a ≤ c → c < m + 1 → p ≤ price (mat rs) a c + price (mat rs) (c + 1) b := fun c h1 h2 => by
              by_cases e : c = m
              · subst e; rw [hp1, hp2]; omega
              · exact hpart c h1 (by omega)
            have HA2 := Lib.hid hall2
            clear hall2 hp1 hp2 g1 g2 hpart
            gi_wp2
            refine wpIn_region_quiet_round rfl (by kernel_rfl) (by kernel_rfl) (by kernel_rfl) ?_
            iterate 4 (gi_big_quiet_step (fail))
            gi_big_quiet_step ((gi_at_call 38; with_reducible exact qaIn (PC.out (a : Int) (m : Int) a m p1 rfl rfl ham (by omega) HP1.out _ _ (bn HB.out _))))
            iterate 4 (gi_big_quiet_step (fail))
            gi_big_quiet_step ((gi_at_call 38; with_reducible exact qaIn (PC.out ((m : Int) + 1) (b : Int) (m + 1) b p2 (by omega) rfl (by omega) hb HP2.out _ _ (bn HB.out _))))
            iterate 2 (gi_big_quiet_step (fail))
            refine wpQuietIn_nil ?_
            intro _ hw'
            obtain ⟨nq, hw''⟩ := hw'
            subst hw''
            gi_wp2
            go_roundw
            case rel => exact ⟨m + 1, k + nq, by omega, by omega, by go_num, HA2.out, by first | rfl | simp⟩
            case measure => simp [intOf]; omega
        · have im : ¬ (m : Int) < (b : Int) := by omega
          have hm : m = b := by omega
          subst hm
          have HGF := Lib.hid (HGO2.out hpart)
          clear hpart
          gi_wp2
          exact ⟨keeps_drewN _ W k, rfl, ⟨⟨⟨HGF.out, BF.out⟩, BR.out⟩, BN.out⟩, bn HB.out _⟩
  case done =>
    rintro D ys W hD hys ⟨⟨⟨⟨hS, bF⟩, bR⟩, bN⟩, hB⟩ hK
    have cR := bR.cell
    have fR := bR.frozen
    have hrt : r = true := HR.out.2 (fun x => hS x (rng_all hys x))
    subst hrt
    gi_wp2
    have hK' := (KeepsOthers.setCell W ⟨w.heap.size + 1, 0, none⟩ (.bool true)).same D _ hK rfl
    refine ⟨by simp, .inl ⟨_, _, rfl, run_takeDeferred hK', ?_⟩⟩
    have hc5 := cell_kept (bR.set (.bool true)).cell (grownBy_putObj' _ D (.deferred none)) (fun r e => by cases e; exact ⟨_, hK', rfl⟩)
    refine ⟨.bool true, ?_, rfl, (hB.setCell (p := ⟨w.heap.size + 1, 0, none⟩) (by simp) _).trans (belowK_b (w := w) (Nat.le_refl _) _ D _ _ (by omega) hK' rfl rfl)⟩
    simp [results, Try.results36, go_sem, hc5]
  case stop =>
    rintro D c pre W hD hpre ⟨⟨⟨rfl, hx⟩, bR⟩, hB⟩ hK
    have hrf : r = false := by
      cases hrr : r with
      | false => rfl
      | true => exact absurd (fun x _ => HR.out.1 hrr x) hx
    subst hrf
    gi_wp2
    refine ⟨by simp, .inl ⟨_, _, rfl, run_takeDeferred hK, ?_⟩⟩
    have hc5 := cell_kept bR.cell (grownBy_putObj' _ D (.deferred none)) (fun r e => by cases e; exact ⟨_, hK, rfl⟩)
    refine ⟨.bool false, ?_, rfl, hB.trans (belowK_b (w := w) (Nat.le_refl _) W D _ _ (by omega) hK rfl rfl)⟩
    simp [results, Try.results36, go_sem, hc5]
end Fa
end Go.Proofs.Ytcppeligeodomaa
