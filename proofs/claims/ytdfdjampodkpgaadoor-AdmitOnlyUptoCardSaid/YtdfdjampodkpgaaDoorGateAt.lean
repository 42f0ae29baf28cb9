/- Gate: where a pass stands. -/
import Derived.Test.YtdfdjampodkpgaaDoorPassEl
import Derived.Test.YtdfdjampodkpgaaDoorJBase
import Derived.Lib.SliceRun
import Derived.Shelf.Abstract
import Derived.BigQuiet
set_option linter.unusedSimpArgs false
set_option linter.unusedVariables false
namespace Go.Proofs.YtdfdjampodkpgaaDoor
open Go.RowKit
namespace Gt
open Sn Pa
def isX (id : Int) (x : Px) : Bool := decide (x.p.id = id)
set_option maxRecDepth 100000 in
theorem clo_any (B0 : Nat) (no : Int) (x : Px) (w : World) (c0 : w.cell? ⟨B0, 0, none⟩ = some (.int .i64 no)) : Calls Tryd.prog 84 #[aX x, .pointer (some ⟨B0, 0, none⟩)] w (BoolQ (isX no x) w) := by
  obtain ⟨⟨n, born, pa, pb, ser⟩, a, cap, l⟩ := x
  have hd : (n == no) = isX no ⟨⟨n, born, pa, pb, ser⟩, a, cap, l⟩ := rfl
  have HD := Lib.hid hd; clear hd
  generalize isX no ⟨⟨n, born, pa, pb, ser⟩, a, cap, l⟩ = b at *
  have c1 : (w.alloc (.cells #[.int .i64 n, .int .i64 born, .int .i64 pa, .int .i64 pb, .int .i64 ser, .slice a l.length cap] 25)).cell? ⟨B0, 0, none⟩ = some (.int .i64 no) := kp ((br w).alloc (Nat.le_refl _) _) c0
  show Calls Tryd.prog 84 #[.agg #[.int .i64 n, .int .i64 born, .int .i64 pa, .int .i64 pb, .int .i64 ser, .slice a l.length cap], .pointer (some ⟨B0, 0, none⟩)] w _
  go_enter Tryd.func84, Tryd.ntmps84
  go_wp2_with fail
  try go_quiet (fail)
  go_wp2
  go_ret
  exact ⟨by (rw [← HD.out]; rfl), by first | exact (br _).alloc (Nat.le_refl _) _ | exact bn ((br _).alloc (Nat.le_refl _) _) _⟩
set_option maxRecDepth 100000 in
set_option maxHeartbeats 2000000 in
theorem idx_any (B0 : Nat) (no : Int) (v : Value) (xs : List Px) (w : World) (h : RdE elX w v xs) (c0 : w.cell? ⟨B0, 0, none⟩ = some (.int .i64 no)) :
    Calls Tryd.prog 83 #[v, .func (.func 84) #[] #[.pointer (some ⟨B0, 0, none⟩)]] w (IntQ (findI (isX no) xs) w) := by
  have hle := h.len_le
  obtain ⟨a, cap, rfl, h1, h2, h3⟩ := h
  have H3 := Lib.hid h3; clear h3
  have eg : ∀ args w, (callFunc 84 args).run Tryd.prog w = .ok (.enter 84 args) w := enters_of Tryd.func84 (by kernel_rfl) rfl
  obtain ⟨RES, hRES⟩ : ∃ RES : Int, findI (isX no) xs = RES := ⟨_, rfl⟩
  rw [hRES]
  have HRES := Lib.hid hRES; clear hRES
  go_enter Tryd.func83, Tryd.ntmps83
  go_wp2
  go_loopw [8] (fun i wr => ∃ k : Nat, k ≤ xs.length ∧ i = .int .i64 k ∧ (∀ j (hj : j < xs.length), j < k → isX no xs[j] = false) ∧ Below w.heap.size w wr) (fun i _ => xs.length - (intOf i).toNat)
  case atStart => exact ⟨0, Nat.zero_le _, rfl, fun j hj hk => by omega, br _⟩
  case round =>
    obtain ⟨k, hk, rfl, hall, hbw⟩ := hrel
    by_cases hlt : k < xs.length
    · obtain ⟨g, off, rfl, hbl, hc⟩ := H3.out (by omega)
      obtain ⟨q0, q1, q2, q3, q4, q5⟩ := eX_at hc k hlt
      have d0 := (hbw.cell (p := ⟨g, off + k * 6, none⟩) hbl).trans q0
      have d1 := (hbw.cell (p := ⟨g, off + k * 6 + 1, none⟩) hbl).trans q1
      have d2 := (hbw.cell (p := ⟨g, off + k * 6 + 2, none⟩) hbl).trans q2
      have d3 := (hbw.cell (p := ⟨g, off + k * 6 + 3, none⟩) hbl).trans q3
      have d4 := (hbw.cell (p := ⟨g, off + k * 6 + 4, none⟩) hbl).trans q4
      have d5 := (hbw.cell (p := ⟨g, off + k * 6 + 5, none⟩) hbl).trans q5
      have i1 : (k : Int) < (xs.length : Int) := by omega
      have i0 : (0 : Int) ≤ (k : Int) := by omega
      have HCL := Lib.hid (clo_any B0 no xs[k] wr (kp hbw c0))
      have HBW := Lib.hid hbw; have HALL := Lib.hid hall
      by_cases he : isX no xs[k] = true
      · have hat : findN (isX no) xs = k := findN_eq _ xs k (by omega) hall (fun _ => he)
        have hR := HRES.out
        unfold findI at hR
        rw [hat, if_neg (by omega)] at hR
        have HR := Lib.hid hR
        rw [he] at HCL
        clear hbw hall hc hR hat he H3 HRES q0 q1 q2 q3 q4 q5 c0
        unfold aX aP Px.v at HCL
        unfold Px.v at d5
        generalize xs[k].p.id = t0 at *
        generalize xs[k].p.born = t1 at *
        generalize xs[k].p.a = t2 at *
        generalize xs[k].p.b = t3 at *
        generalize xs[k].p.ser = t4 at *
        generalize (Value.slice xs[k].a xs[k].l.length xs[k].cap) = t5 at *
        go_wp2_with fail
        refine (HCL.out).mono ?_
        rintro en w3 ⟨rfl, hb3⟩
        go_wp2
        go_ret
        exact ⟨by rw [← HR.out]; rfl, HBW.out.trans (hb3.mono HBW.out.size)⟩
      · have he' : isX no xs[k] = false := by simpa using he
        have hall2 : ∀ j (hj : j < xs.length), j < k + 1 → isX no xs[j] = false := fun j hj hjk => by
          by_cases e : j = k
          · subst e; exact he'
          · exact hall j hj (by omega)
        have HA2 := Lib.hid hall2
        rw [he'] at HCL
        clear hbw hall hc hall2 he he' H3 q0 q1 q2 q3 q4 q5 c0
        unfold aX aP Px.v at HCL
        unfold Px.v at d5
        generalize xs[k].p.id = t0 at *
        generalize xs[k].p.born = t1 at *
        generalize xs[k].p.a = t2 at *
        generalize xs[k].p.b = t3 at *
        generalize xs[k].p.ser = t4 at *
        generalize (Value.slice xs[k].a xs[k].l.length xs[k].cap) = t5 at *
        go_wp2_with fail
        refine (HCL.out).mono ?_
        rintro en w3 ⟨rfl, hb3⟩
        have HB3 := Lib.hid (HBW.out.trans (hb3.mono HBW.out.size))
        clear hb3
        go_wp2
        go_roundw
        case rel => exact ⟨k + 1, by omega, by go_num, HA2.out, HB3.out⟩
        case measure => simp [intOf]; omega
    · have hat : findN (isX no) xs = xs.length := findN_eq _ xs xs.length (Nat.le_refl _) (fun j hj _ => hall j hj (by omega)) (fun h => absurd h (Nat.lt_irrefl _))
      have hR := HRES.out
      unfold findI at hR
      rw [if_pos hat] at hR
      have HR := Lib.hid hR
      clear hR hat hall H3 HRES
      go_wp2
      go_ret
      exact ⟨by rw [← HR.out]; rfl, hbw⟩
def atX (xs : List Px) (id : Int) : Int := findI (isX id) xs
theorem at_any (no : Int) (v : Value) (xs : List Px) (w : World) (h : RdE elX w v xs) : Calls Tryd.prog 71 #[v, .int .i64 no] w (IntQ (atX xs no) w) := by
  have hI := idx_any w.heap.size no v xs (w.alloc (.cells #[.int .i64 no] 3)) (h.below ((br w).alloc (Nat.le_refl _) _)) (by rw [World.cell?_alloc_mark]; rfl)
  have HI := Lib.hid hI; clear hI
  unfold atX
  obtain ⟨RES, hRES⟩ : ∃ RES : Int, findI (isX no) xs = RES := ⟨_, rfl⟩
  rw [hRES] at HI ⊢
  clear hRES
  go_enter Tryd.func71, Tryd.ntmps71
  go_wp2_with fail
  refine HI.out.mono ?_
  rintro en w1 ⟨rfl, hb1⟩
  go_wp2
  go_ret
  exact ⟨rfl, bt ((br _).alloc (Nat.le_refl _) _) hb1⟩
end Gt
end Go.Proofs.YtdfdjampodkpgaaDoor
