/- Fares: the document's least sum of ranges that have all zones. -/
import Derived.Test.YtcppeligeodomaaFareFairR
import Derived.Test.YtcppeligeodomaaFareMendP
import Derived.BigQuiet
set_option linter.unusedVariables false
namespace Go.Proofs.Ytcppeligeodomaa
open Go.RowKit
theorem qd {P : Program} {f : FuncId} {args : Array Value} {w : World} {n : Nat} {v : Value}
    (h : Calls P f args (w.drewN n) fun e w' => e = .returned v ∧ ∃ m, w' = (w.drewN n).drewN m) : Calls P f args (w.drewN n) fun e w'' => e = .returned v ∧ ∃ m, w'' = w.drewN m :=
  h.mono fun _ _ ⟨he, m, hm⟩ => ⟨he, n + m, by rw [hm, World.drewN_drewN]⟩
namespace Fa
/-- the least sum -/
def covL (m : List (List Int)) (a b : Nat) : Int := if b < a then 0 else price (mendL m (rngN m.length)) a b
section
variable {m : List (List Int)} (hm : Ok m)
include hm
theorem covL_least (a b : Nat) (hb : b < m.length) : (∃ s, s ≤ covL m a b ∧ Ach m (b + 1) a s) ∧ ∀ s, Ach m (b + 1) a s → covL m a b ≤ s := by
  unfold covL
  by_cases h : b < a
  · rw [if_pos h]
    exact ⟨⟨0, Int.le_refl _, .done a (by omega)⟩, fun s hs => ach_nonneg hm hs⟩
  · rw [if_neg h]
    exact mendL_least hm a b (by omega) hb
theorem covL_bd (a b : Nat) (hb : b < m.length) : 0 ≤ covL m a b ∧ covL m a b ≤ 1000000 := by
  unfold covL
  by_cases h : b < a
  · rw [if_pos h]; omega
  · rw [if_neg h]
    exact (mendL_shape hm (rngN m.length) (fun q hq => (mem_rngN _ _).1 hq)).2 a b (by omega) hb
/-- what the document's loops find -/
theorem covL_is (a b : Nat) (hab : a ≤ b) (hb : b < m.length) (best : Int)
    (h1 : ∃ x y, x ≤ a ∧ a ≤ y ∧ y < m.length ∧ best = price m x y + covL m (y + 1) b)
    (h2 : ∀ x y, x ≤ a → a ≤ y → y < m.length → best ≤ price m x y + covL m (y + 1) b) : best = covL m a b := by
  obtain ⟨hL1, hL2⟩ := covL_least hm a b hb
  obtain ⟨x, y, g1, g2, g3, g4⟩ := h1
  obtain ⟨⟨s, i1, i2⟩, _⟩ := covL_least hm (y + 1) b hb
  have h3 := hL2 _ (Ach.step a x y s (by omega) g1 g2 g3 i2)
  obtain ⟨t, j1, j2⟩ := hL1
  cases j2 with
  | done _ h => omega
  | step _ x' y' s' k1 k2 k3 k4 k5 =>
    have e1 := h2 x' y' k2 k3 k4
    have e2 := (covL_least hm (y' + 1) b hb).2 s' k5
    omega
end
/-- what the loops hold: the least so far -/
structure Cv (m : List (List Int)) (a b : Nat) (best : Int) (x y : Nat) : Prop where
  neg : best < 0 → best = -1 ∧ x = 0 ∧ y = a
  some : 0 ≤ best → ∃ x' y', x' ≤ a ∧ a ≤ y' ∧ y' < m.length ∧ best = price m x' y' + covL m (y' + 1) b
  all : 0 ≤ best → ∀ x' y', x' ≤ a → a ≤ y' → y' < m.length → (x' < x ∨ (x' = x ∧ y' < y)) → best ≤ price m x' y' + covL m (y' + 1) b
theorem Cv.next {m : List (List Int)} {a b x y : Nat} {best p : Int} (h : Cv m a b best x y) (hp : price m x y + covL m (y + 1) b = p) (h0 : 0 ≤ p) (hx : x ≤ a) (hy : a ≤ y) (hyn : y < m.length) :
    ((best < 0 ∨ p < best) → Cv m a b p x (y + 1)) ∧ (0 ≤ best → best ≤ p → Cv m a b best x (y + 1)) := by
  constructor
  · intro hc
    refine ⟨fun hn => by omega, fun _ => ⟨x, y, hx, hy, hyn, hp.symm⟩, fun _ x' y' g1 g2 g3 g4 => ?_⟩
    by_cases he : x' = x ∧ y' = y
    · obtain ⟨rfl, rfl⟩ := he; omega
    · by_cases hb : best < 0
      · have := h.neg hb; omega
      · have := h.all (by omega) x' y' g1 g2 g3 (by omega); omega
  · intro h1 h2
    refine ⟨fun hn => by omega, fun _ => h.some h1, fun _ x' y' g1 g2 g3 g4 => ?_⟩
    by_cases he : x' = x ∧ y' = y
    · obtain ⟨rfl, rfl⟩ := he; omega
    · exact h.all h1 x' y' g1 g2 g3 (by omega)
theorem Cv.row {m : List (List Int)} {a b x : Nat} {best : Int} (h : Cv m a b best x m.length) (ha : a < m.length) : Cv m a b best (x + 1) a :=
  ⟨fun hn => by have := h.neg hn; omega, h.some, fun h0 x' y' g1 g2 g3 g4 => h.all h0 x' y' g1 g2 g3 (by omega)⟩
theorem Cv.fin {m : List (List Int)} {a b : Nat} {best : Int} (hm : Ok m) (h : Cv m a b best (a + 1) a) (hab : a ≤ b) (hb : b < m.length) : best = covL m a b := by
  have h0 : 0 ≤ best := by
    refine Int.not_lt.1 (fun hn => ?_)
    have := h.neg hn; omega
  exact covL_is hm a b hab hb best (h.some h0) (fun x y g1 g2 g3 => h.all h0 x y g1 g2 g3 (by omega))
set_option maxRecDepth 100000 in
set_option maxHeartbeats 8000000 in
theorem cover_any (v : Value) (rs : List Rw) (hok : Ok (mat rs)) : ∀ (k a b : Nat) (w : World), rs.length - a ≤ k → a ≤ rs.length → b < rs.length → RdF w v rs → Calls Try.prog 41 #[v, .int .i64 a, .int .i64 b] w fun e w' => e = .returned (.int .i64 (covL (mat rs) a b)) ∧ ∃ m, w' = w.drewN m := by
  have hml : (mat rs).length = rs.length := List.length_map _
  have hsix := hok.six
  rw [hml] at hsix
  have HML := Lib.hid hml; have HOK := Lib.hid hok
  have small : ∀ (a b : Nat) (w : World), b < a → a ≤ rs.length → Calls Try.prog 41 #[v, .int .i64 a, .int .i64 b] w fun e w' => e = .returned (.int .i64 (covL (mat rs) a b)) ∧ ∃ m, w' = w.drewN m := by
    intro a b w hba han
    have hcov : covL (mat rs) a b = 0 := by unfold covL; rw [if_pos hba]
    have HC := Lib.hid hcov
    have iab : (b : Int) < (a : Int) := by omega
    clear hcov hok hml
    go_enter Try.func41, Try.ntmps41
    go_wp2
    go_ret
    exact ⟨by rw [HC.out]; rfl, 0, rfl⟩
  intro k
  induction k with
  | zero => intro a b w hk ha hb h; exact small a b w (by omega) ha
  | succ k ih =>
    intro a b w hk ha hb h
    by_cases hba : b < a
    · exact small a b w hba ha
    have hab : a ≤ b := by omega
    have han : a < rs.length := by omega
    have iab : ¬ (b : Int) < (a : Int) := by omega
    have ian : (a : Int) < (rs.length : Int) := by omega
    have hle := h.rd.len_le
    have hrd := h
    obtain ⟨a0, cap, rfl, h1, h2, h3⟩ := h.rd
    obtain ⟨g, off, rfl, hbl, -⟩ := h3 (by omega)
    have CE := Lib.hid (fun (x y : Nat) (w' : World) (hb : Below w.heap.size w w') (hxy : x ≤ y) (hy : y < rs.length) => cells_of hrd hb hok hxy hy)
    have HPO := Lib.hid (fun (x y : Nat) (hxy : x ≤ y) (hy : y < rs.length) => price_ok hok hxy (by rw [hml]; exact hy))
    have HCB := Lib.hid (fun (x : Nat) => covL_bd hok x b (by rw [hml]; exact hb))
    have IH : RowKit.Hid (∀ (y : Nat) (c : Int) (w' : World), a ≤ y → y < rs.length → covL (mat rs) (y + 1) b = c → Below w.heap.size w w' → Calls Try.prog 41 #[.slice (some ⟨g, off, none⟩) rs.length cap, .int .i64 ((y : Int) + 1), .int .i64 b] w' fun e w'' => e = .returned (.int .i64 c) ∧ ∃ m, w'' = w'.drewN m) := Lib.hid (fun y c w' g1 g2 g3 g4 => by
      subst g3
      have := ih (y + 1) b w' (by omega) (by omega) hb (hrd.next g4)
      rw [show ((y + 1 : Nat) : Int) = (y : Int) + 1 by omega] at this
      exact this)
    clear ih small hok hml h hrd h3 hbl h1 h2
    go_enter Try.func41, Try.ntmps41
    go_wp2
    go_loopw [7, 8] (fun t i wr => ∃ (x : Nat) (best : Int), x ≤ a + 1 ∧ i = .int .i64 x ∧ t = .int .i64 best ∧ Cv (mat rs) a b best x a ∧ best ≤ 2000000 ∧ ∃ j, wr = w.drewN j) (fun _ i _ => a + 1 - (intOf i).toNat)
    case atStart => exact ⟨0, -1, Nat.zero_le _, rfl, rfl, ⟨fun _ => ⟨rfl, rfl, rfl⟩, fun h => by omega, fun h => by omega⟩, by omega, 0, rfl⟩
    case round =>
      obtain ⟨x, best, hx, rfl, rfl, hcv, hbd, hj⟩ := hrel
      have HCV := Lib.hid hcv; have HJ := Lib.hid hj
      by_cases hxa : x ≤ a
      · have ix : (x : Int) ≤ (a : Int) := by omega
        have ix0 : (0 : Int) ≤ (x : Int) := by omega
        have ix1 : (x : Int) < (rs.length : Int) := by omega
        clear hcv hj
        go_wp2
        go_loopw [7, 9] (fun t i wy => ∃ (y : Nat) (best : Int), a ≤ y ∧ y ≤ rs.length ∧ i = .int .i64 y ∧ t = .int .i64 best ∧ Cv (mat rs) a b best x y ∧ best ≤ 2000000 ∧ ∃ j, wy = w.drewN j) (fun _ i _ => rs.length - (intOf i).toNat)
        case atStart => exact ⟨a, best, Nat.le_refl _, by omega, rfl, rfl, HCV.out, hbd, HJ.out⟩
        case round =>
          obtain ⟨y, bs, hay, hy, rfl, rfl, hcv2, hbd2, hj2⟩ := hrel
          have HCV2 := Lib.hid hcv2; have HJ2 := Lib.hid hj2
          by_cases hly : y < rs.length
          · have iy : (y : Int) < (rs.length : Int) := by omega
            have HBW : RowKit.Hid (∀ n, Below w.heap.size w (wr.drewN n)) := Lib.hid (fun n => by obtain ⟨j, e⟩ := HJ2.out; rw [e]; exact bn (bn (br w) j) n)
            obtain ⟨g2, o2, l2, r2, e0, e1, e2, e3⟩ := CE.out x y wr (by obtain ⟨j, e⟩ := HJ2.out; rw [e]; exact bn (br w) j) (by omega) hly
            have hw2 : IntKind.i64.wrap ((y : Int) - (x : Int)) = ((y - x : Nat) : Int) := by rw [(Int.ofNat_sub (by omega : x ≤ y)).symm]; exact IntWalk.i64_in _ (by omega)
            have z2 : (0 : Int) ≤ ((y - x : Nat) : Int) := by omega
            have hq1 := (HPO.out x y (by omega) hly).1
            have hq2 := (HPO.out x y (by omega) hly).2
            have hc1 := (HCB.out (y + 1)).1
            have hc2 := (HCB.out (y + 1)).2
            generalize hQ : price (mat rs) x y = Q at *
            generalize hC : covL (mat rs) (y + 1) b = C at *
            have hnx := hcv2.next (p := Q + C) (by rw [hQ, hC]) (by omega) hxa hay (by rw [HML.out]; exact hly)
            have HNX := Lib.hid hnx; have HC := Lib.hid hC
            clear hnx hC hQ hcv2 hj2
            have hcase : (bs < 0) ∨ (0 ≤ bs ∧ Q + C < bs) ∨ (0 ≤ bs ∧ bs ≤ Q + C) := by omega
            rcases hcase with c1 | ⟨c1, c2⟩ | ⟨c1, c2⟩
            · have HN := Lib.hid (HNX.out.1 (.inl c1))
              go_wp2
              go_quiet ((go_at_call 41; exact qd (IH.out y C _ hay hly HC.out (HBW.out _))))
              go_wp2
              go_roundw
              case rel => exact ⟨y + 1, Q + C, by omega, by omega, by go_num, rfl, HN.out, by omega, by obtain ⟨j, e⟩ := HJ2.out; exact ⟨j + nq, by rw [e, World.drewN_drewN]⟩⟩
              case measure => simp [intOf]; omega
            · have HN := Lib.hid (HNX.out.1 (.inr c2))
              have c1' : ¬ bs < 0 := by omega
              go_wp2
              go_quiet ((go_at_call 41; exact qd (IH.out y C _ hay hly HC.out (HBW.out _))))
              go_wp2
              go_roundw
              case rel => exact ⟨y + 1, Q + C, by omega, by omega, by go_num, rfl, HN.out, by omega, by obtain ⟨j, e⟩ := HJ2.out; exact ⟨j + nq, by rw [e, World.drewN_drewN]⟩⟩
              case measure => simp [intOf]; omega
            · have HN := Lib.hid (HNX.out.2 c1 c2)
              have c1' : ¬ bs < 0 := by omega
              have c2' : ¬ Q + C < bs := by omega
              go_wp2
              go_quiet ((go_at_call 41; exact qd (IH.out y C _ hay hly HC.out (HBW.out _))))
              go_wp2
              go_roundw
              case rel => exact ⟨y + 1, bs, by omega, by omega, by go_num, rfl, HN.out, by omega, by obtain ⟨j, e⟩ := HJ2.out; exact ⟨j + nq, by rw [e, World.drewN_drewN]⟩⟩
              case measure => simp [intOf]; omega
          · have ey : y = rs.length := by omega
            subst ey
            have hrow := (show Cv (mat rs) a b bs x (mat rs).length by rw [HML.out]; exact hcv2).row (by rw [HML.out]; exact han)
            have HRW := Lib.hid hrow
            clear hrow hcv2 hj2
            go_wp2
            go_roundw
            case rel => exact ⟨x + 1, bs, by omega, by go_num, rfl, HRW.out, hbd2, HJ2.out⟩
            case measure => simp [intOf]; omega
      · have ex : x = a + 1 := by omega
        subst ex
        have hfin := hcv.fin HOK.out hab (by rw [HML.out]; exact hb)
        have HF := Lib.hid hfin
        have ix : ¬ ((a + 1 : Nat) : Int) ≤ (a : Int) := by omega
        clear hcv hj hfin
        go_wp2
        go_ret
        exact ⟨by rw [← HF.out]; rfl, HJ.out⟩
end Fa
end Go.Proofs.Ytcppeligeodomaa
