/- The document's functions on rings: the key of an epoch; are two rings one. -/
import Derived.Test.YtmeoeihfgmmgmaaRingRef
import Derived.Test.YtmeoeihfgmmgmaaRingDrop
import Derived.Deep.LoopGhost
import Derived.OwnWalk
import Derived.Laws.StructEq
import Derived.Test.YtmeoeihfgmmgmaaTagEq
set_option linter.unusedVariables false
namespace Go.Proofs.Ytmeoeihfgmmgmaa
open Go.RowKit
namespace Rg
open Tg
theorem ne_ep (x y : Ep) (w : World) : Sem.run Try.prog (binOp .neq 40 (.agg #[.int .i64 x.1, .int .u64 (wi x.2.1), .int .u64 (wi x.2.2)]) (.agg #[.int .i64 y.1, .int .u64 (wi y.2.1), .int .u64 (wi y.2.2)])) w = .ok (.bool (!decide (x = y))) w := by
  have e1 : (x.1 == y.1) = decide (x.1 = y.1) := rfl
  have hx : (x = y) ↔ (x.1 = y.1 ∧ x.2.1 = y.2.1 ∧ x.2.2 = y.2.2) := by
    obtain ⟨a, b, c⟩ := x; obtain ⟨a', b', c'⟩ := y; simp
  have e2 : (wi x.2.1 == wi y.2.1) = decide (x.2.1 = y.2.1) := ei
  have e3 : (wi x.2.2 == wi y.2.2) = decide (x.2.2 = y.2.2) := ei
  have hd : decide (x = y) = (decide (x.1 = y.1) && (decide (x.2.1 = y.2.1) && decide (x.2.2 = y.2.2))) := by
    rw [Bool.eq_iff_iff]; simp only [decide_eq_true_eq, Bool.and_eq_true]; exact hx
  rw [hd, ← e1, ← e2, ← e3]
  clear hd hx e1 e2 e3
  generalize x.1 = n; generalize wi x.2.1 = a; generalize wi x.2.2 = b
  generalize y.1 = n'; generalize wi y.2.1 = a'; generalize wi y.2.2 = b'
  go_simp
  by_cases h1 : n = n' <;> by_cases h2 : a = a' <;> by_cases h3 : b = b' <;> simp [h1, h2, h3]
def keyF (no : Int) (xs : List Ep) : (W64 × W64) × Bool := match xs[atN no xs]? with | some x => (x.2, true) | none => ((0, 0), false)
def KeyQ (r : (W64 × W64) × Bool) (w : World) (e : Ending) (w' : World) : Prop := e = .returned (.tuple #[aKey r.1.1 r.1.2, .bool r.2]) ∧ Below w.heap.size w w'
set_option maxHeartbeats 2000000 in
theorem key_any (v : Value) (xs : List Ep) (no : Int) (w : World) (h : Rd 3 eE w v xs) : Calls Try.prog 20 #[v, .int .i64 no] w (KeyQ (keyF no xs) w) := by
  have hle := h.len_le
  obtain ⟨a, cap, rfl, h1, h2, h3⟩ := h
  have H3 := Lib.hid h3; clear h3
  obtain ⟨RES, hRES⟩ : ∃ RES, keyF no xs = RES := ⟨_, rfl⟩
  rw [hRES]
  have HRES := Lib.hid hRES; clear hRES
  go_enter Try.func20, Try.ntmps20
  go_wp2
  go_loopw [6] (fun i wr => ∃ k : Nat, k ≤ xs.length ∧ i = .int .i64 k ∧ (∀ j (hj : j < xs.length), j < k → xs[j].1 ≠ no) ∧ wr = w.alloc (.cells #[.int .u64 0, .int .u64 0] 25)) (fun i _ => xs.length - (intOf i).toNat)
  case atStart => exact ⟨0, Nat.zero_le _, rfl, fun j hj hk => by omega, rfl⟩
  case round =>
    obtain ⟨k, hk, rfl, hall, rfl⟩ := hrel
    have hbw : Below w.heap.size w (w.alloc (.cells #[.int .u64 0, .int .u64 0] 25)) := (br _).alloc (Nat.le_refl _) _
    have b0 : (w.alloc (.cells #[.int .u64 0, .int .u64 0] 25)).cell? ⟨w.heap.size, 0, none⟩ = some (.int .u64 0) := by rw [World.cell?_alloc_mark]; rfl
    have b1 : (w.alloc (.cells #[.int .u64 0, .int .u64 0] 25)).cell? ⟨w.heap.size, 1, none⟩ = some (.int .u64 0) := by rw [World.cell?_alloc_mark]; rfl
    have z0 : (w.alloc (.cells #[.int .u64 0, .int .u64 0] 25)).frozen? ⟨w.heap.size, 0, none⟩ = false := by rw [World.frozen?_alloc_mark]; simp
    have z1 : (w.alloc (.cells #[.int .u64 0, .int .u64 0] 25)).frozen? ⟨w.heap.size, 1, none⟩ = false := by rw [World.frozen?_alloc_mark]; simp
    by_cases hlt : k < xs.length
    · obtain ⟨g, off, rfl, hbl, hc⟩ := H3.out (by omega)
      obtain ⟨q0, q1, q2⟩ := eE_at hc k hlt
      have d0 := (hbw.cell (p := ⟨g, off + k * 3, none⟩) hbl).trans q0
      have d1 := (hbw.cell (p := ⟨g, off + k * 3 + 1, none⟩) hbl).trans q1
      have d2 := (hbw.cell (p := ⟨g, off + k * 3 + 2, none⟩) hbl).trans q2
      have i1 : (k : Int) < (xs.length : Int) := by omega
      have i0 : (0 : Int) ≤ (k : Int) := by omega
      have HALL := Lib.hid hall
      by_cases he : xs[k].1 = no
      · have hat : atN no xs = k := atN_eq no xs k (by omega) hall (fun _ => he)
        have hR := HRES.out
        unfold keyF at hR
        rw [hat, List.getElem?_eq_getElem hlt] at hR
        simp only at hR
        have HR := Lib.hid hR
        obtain ⟨ka, hka⟩ : ∃ ka, xs[k].2.1 = ka := ⟨_, rfl⟩
        obtain ⟨kb, hkb⟩ : ∃ kb, xs[k].2.2 = kb := ⟨_, rfl⟩
        have HKA := Lib.hid hka; have HKB := Lib.hid hkb
        rw [hka] at d1; rw [hkb] at d2
        rw [he] at d0
        clear hc q0 q1 q2 he hall hat hR hka hkb
        go_wp2_with fail
        have y0 : (w.alloc (.cells #[.int .u64 (wi ka), .int .u64 (wi kb)] 25)).cell? ⟨w.heap.size, 0, none⟩ = some (.int .u64 (wi ka)) := by rw [World.cell?_alloc_mark]; rfl
        have y1 : (w.alloc (.cells #[.int .u64 (wi ka), .int .u64 (wi kb)] 25)).cell? ⟨w.heap.size, 1, none⟩ = some (.int .u64 (wi kb)) := by rw [World.cell?_alloc_mark]; rfl
        refine bodyPost_ret (v := .tuple #[aKey ka kb, .bool true]) (by simp [results, Try.results20, go_sem, aKey, y0, y1]) rfl ⟨?_, (br w).alloc (Nat.le_refl _) _⟩
        rw [← HR.out, ← HKA.out, ← HKB.out]
      · have hall2 : ∀ j (hj : j < xs.length), j < k + 1 → xs[j].1 ≠ no := fun j hj hjk => by
          by_cases e : j = k
          · subst e; exact he
          · exact hall j hj (by omega)
        have HA2 := Lib.hid hall2
        clear hc q0 q1 q2 hall hall2
        generalize xs[k].1 = nn at *; generalize wi xs[k].2.1 = ka at *; generalize wi xs[k].2.2 = kb at *
        go_wp2
        go_roundw
        case rel => exact ⟨k + 1, by omega, by go_num, HA2.out, by first | rfl | trivial⟩
        case measure => simp [intOf]; omega
    · have hat : atN no xs = xs.length := atN_eq no xs xs.length (Nat.le_refl _) (fun j hj _ => hall j hj (by omega)) (fun h => absurd h (Nat.lt_irrefl _))
      have hR := HRES.out
      unfold keyF at hR
      rw [hat, List.getElem?_eq_none (Nat.le_refl _)] at hR
      simp only at hR
      have HR := Lib.hid hR
      have e00 : wi 0 = 0 := by decide
      have HBW := Lib.hid hbw
      clear hat hR hall hbw H3 HRES
      go_wp2_with fail
      refine bodyPost_ret (v := .tuple #[.agg #[.int .u64 0, .int .u64 0], .bool false]) (by simp [results, Try.results20, go_sem, b0, b1]) rfl ⟨?_, HBW.out⟩
      rw [← HR.out]; simp only [aKey, e00]
set_option maxHeartbeats 2000000 in
theorem same_any (v u : Value) (xs ys : List Ep) (w : World) (h : Rd 3 eE w v xs) (h' : Rd 3 eE w u ys) : Calls Try.prog 15 #[v, u] w fun e w' => e = .returned (.bool (decide (xs = ys))) ∧ Below w.heap.size w w' := by
  have hle := h.len_le
  have hle' := h'.len_le
  obtain ⟨a, cap, rfl, h1, h2, h3⟩ := h
  obtain ⟨a', cap', rfl, h1', h2', h3'⟩ := h'
  have H3 := Lib.hid h3; clear h3
  have H3' := Lib.hid h3'; clear h3'
  by_cases hl : xs.length = ys.length
  · obtain ⟨RES, hRES⟩ : ∃ RES, decide (xs = ys) = RES := ⟨_, rfl⟩
    rw [hRES]
    have HRES := Lib.hid hRES; clear hRES
    have hlb : ((xs.length : Int) != (ys.length : Int)) = false := by simp [hl]
    have HL := Lib.hid hl
    clear hl
    go_enter Try.func15, Try.ntmps15
    go_wp2
    go_loopw [5] (fun i wr => ∃ k : Nat, k ≤ xs.length ∧ i = .int .i64 k ∧ (∀ j (hj : j < xs.length), j < k → xs[j]? = ys[j]?) ∧ Below w.heap.size w wr) (fun i _ => xs.length - (intOf i).toNat)
    case atStart => exact ⟨0, Nat.zero_le _, rfl, fun j hj hk => by omega, br _⟩
    case round =>
      obtain ⟨k, hk, rfl, hall, hbw⟩ := hrel
      by_cases hlt : k < xs.length
      · have hl := HL.out
        have hlt2 : k < ys.length := by omega
        obtain ⟨g, off, rfl, hbl, hc⟩ := H3.out (by omega)
        obtain ⟨g', off', rfl, hbl', hc'⟩ := H3'.out (by omega)
        obtain ⟨q0, q1, q2⟩ := eE_at hc k hlt
        obtain ⟨p0, p1, p2⟩ := eE_at hc' k hlt2
        have d0 := (hbw.cell (p := ⟨g, off + k * 3, none⟩) hbl).trans q0
        have d1 := (hbw.cell (p := ⟨g, off + k * 3 + 1, none⟩) hbl).trans q1
        have d2 := (hbw.cell (p := ⟨g, off + k * 3 + 2, none⟩) hbl).trans q2
        have e0 := (hbw.cell (p := ⟨g', off' + k * 3, none⟩) hbl').trans p0
        have e1 := (hbw.cell (p := ⟨g', off' + k * 3 + 1, none⟩) hbl').trans p1
        have e2 := (hbw.cell (p := ⟨g', off' + k * 3 + 2, none⟩) hbl').trans p2
        have i1 : (k : Int) < (xs.length : Int) := by omega
        have i2 : (k : Int) < (ys.length : Int) := by omega
        have i0 : (0 : Int) ≤ (k : Int) := by omega
        have HBW := Lib.hid hbw; have HALL := Lib.hid hall
        clear hbw hall hc hc' q0 q1 q2 p0 p1 p2 hl H3 H3'
        by_cases he : xs[k] = ys[k]
        · have hstep : ∀ j (hj : j < xs.length), j < k + 1 → xs[j]? = ys[j]? := fun j hj hjk => by
            by_cases e : j = k
            · subst e; rw [List.getElem?_eq_getElem hlt, List.getElem?_eq_getElem hlt2, he]
            · exact HALL.out j hj (by omega)
          have HS := Lib.hid hstep
          have hn1 : (xs[k].1 == ys[k].1) = true := by simp [he]
          have hn2 : (wi xs[k].2.1 == wi ys[k].2.1) = true := by simp [he]
          have hn3 : (wi xs[k].2.2 == wi ys[k].2.2) = true := by simp [he]
          have HE := Lib.hid he
          clear hstep he
          generalize xs[k].1 = x1 at *; generalize wi xs[k].2.1 = x2 at *; generalize wi xs[k].2.2 = x3 at *
          generalize ys[k].1 = y1 at *; generalize wi ys[k].2.1 = y2 at *; generalize wi ys[k].2.2 = y3 at *
          go_wp2_with fail
          go_quiet (fail)
          go_wp2
          go_roundw
          case rel => exact ⟨k + 1, by omega, by go_num, HS.out, by first | exact HBW.out | exact bn HBW.out _⟩
          case measure => simp [intOf]; omega
        · have hno : decide (xs = ys) = false := decide_eq_false (fun e => he (by subst e; rfl))
          have hR := HRES.out
          rw [hno] at hR
          have HR := Lib.hid hR
          have hx : xs[k] = ys[k] ↔ (xs[k].1 = ys[k].1 ∧ xs[k].2.1 = ys[k].2.1 ∧ xs[k].2.2 = ys[k].2.2) := by
            generalize xs[k] = x; generalize ys[k] = y
            obtain ⟨a, b, c⟩ := x; obtain ⟨a', b', c'⟩ := y; simp
          have hcs : (xs[k].1 == ys[k].1) = false ∨ ((xs[k].1 == ys[k].1) = true ∧ (wi xs[k].2.1 == wi ys[k].2.1) = false) ∨ ((xs[k].1 == ys[k].1) = true ∧ (wi xs[k].2.1 == wi ys[k].2.1) = true ∧ (wi xs[k].2.2 == wi ys[k].2.2) = false) := by
            by_cases h1 : xs[k].1 = ys[k].1
            · by_cases h2 : xs[k].2.1 = ys[k].2.1
              · by_cases h3 : xs[k].2.2 = ys[k].2.2
                · exact absurd (hx.2 ⟨h1, h2, h3⟩) he
                · exact .inr (.inr ⟨by simp [h1], by simp [h2], by rw [ei]; exact decide_eq_false h3⟩)
              · exact .inr (.inl ⟨by simp [h1], by rw [ei]; exact decide_eq_false h2⟩)
            · exact .inl (beq_eq_false_iff_ne.2 h1)
          clear hx he hno hR HRES
          generalize xs[k].1 = x1 at *; generalize wi xs[k].2.1 = x2 at *; generalize wi xs[k].2.2 = x3 at *
          generalize ys[k].1 = y1 at *; generalize wi ys[k].2.1 = y2 at *; generalize wi ys[k].2.2 = y3 at *
          rcases hcs with hn1 | ⟨hn1, hn2⟩ | ⟨hn1, hn2, hn3⟩
          all_goals
            go_wp2_with fail
            go_quiet (fail)
            go_wp2
            go_ret
            exact ⟨by rw [← HR.out]; rfl, by first | exact HBW.out | exact bn HBW.out _⟩
      · have hR := HRES.out
        have hall2 : xs = ys := by
          apply List.ext_getElem? 
          intro j
          by_cases hj : j < xs.length
          · exact hall j hj (by omega)
          · rw [List.getElem?_eq_none (by omega), List.getElem?_eq_none (by have := HL.out; omega)]
        rw [decide_eq_true hall2] at hR
        have HR := Lib.hid hR
        clear hall hall2 hR HRES H3 H3'
        go_wp2
        go_ret
        exact ⟨by rw [← HR.out]; rfl, hbw⟩
  · have hd : decide (xs = ys) = false := decide_eq_false (fun e => hl (by rw [e]))
    have hlb : ((xs.length : Int) != (ys.length : Int)) = true := by simp; omega
    rw [hd]
    go_enter Try.func15, Try.ntmps15
    go_wp2
    go_ret
    exact ⟨rfl, br _⟩
end Rg
end Go.Proofs.Ytmeoeihfgmmgmaa
