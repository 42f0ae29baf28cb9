/- Ledgers: the laws that need no reversal. -/
import Derived.Test.YtcppeligeodomaaLedBegun
import Derived.Test.YtcppeligeodomaaLedPlain2
import Derived.Test.YtcppeligeodomaaLedRef4
set_option linter.unusedVariables false
namespace Go.Proofs.Ytcppeligeodomaa
open Go.RowKit
namespace Ld
open Pn
set_option maxHeartbeats 4000000 in
theorem zero_walk (v : Value) (ps : List Po) (w : World) (h : RdL w v ps) : Calls Try.prog 10 #[v] w (BoolQ true w) := by
  have CB := Lib.hid (fun w => begun_any w)
  have C1 := Lib.hid (fun w' h => check_any v ps w' h)
  have HL := Lib.hid h
  clear h
  by_cases c1 : chk (pgs ps) ≠ 0
  · have hn : (chk (pgs ps) != 0) = true := by simpa using c1
    clear c1
    generalize chk (pgs ps) = ec at *
    go_enter Try.func10, Try.ntmps10
    go_wp2_with fail
    refine (CB.out _).mono ?_
    rintro en w1 ⟨rfl, b1⟩
    go_wp2_with fail
    refine (C1.out _ (HL.out.next b1)).mono ?_
    rintro en w2 ⟨rfl, b2⟩
    go_wp2
    go_ret
    exact ⟨rfl, bt b1 b2⟩
  have c1' : chk (pgs ps) = 0 := by simpa using c1
  have hok := (chk_ok _).1 c1'
  have hs := bal_sum (pgs ps) hok.2.1
  have hfi := Fine.of_ok c1'
  have hb : ∀ a, -6597069766656000 ≤ bal a (pgs ps) ∧ bal a (pgs ps) ≤ 6597069766656000 := fun a => by
    have h1 := bal_le a ps hfi.ls
    have h2 := hfi.len
    omega
  have C2 := Lib.hid (fun a w' h (ha : 1 ≤ a ∧ a ≤ 5) => balance_is v ps a w' h (bal a (pgs ps), 0) (by rw [balance_ok _ _ c1', if_neg (by omega)]))
  have hb1 := hb 1; have hb2 := hb 2; have hb3 := hb 3; have hb4 := hb 4; have hb5 := hb 5
  rw [c1'] at C1
  clear c1 c1' hok hfi hb
  have G1 := Lib.hid (fun w' h => C2.out 1 w' h (by omega)); have G2 := Lib.hid (fun w' h => C2.out 2 w' h (by omega)); have G3 := Lib.hid (fun w' h => C2.out 3 w' h (by omega)); have G4 := Lib.hid (fun w' h => C2.out 4 w' h (by omega)); have G5 := Lib.hid (fun w' h => C2.out 5 w' h (by omega))
  clear C2
  generalize bal 1 (pgs ps) = x1 at *; generalize bal 2 (pgs ps) = x2 at *; generalize bal 3 (pgs ps) = x3 at *; generalize bal 4 (pgs ps) = x4 at *; generalize bal 5 (pgs ps) = x5 at *
  have w1 : IntKind.i64.wrap x1 = x1 := IntWalk.i64_in _ (by omega)
  have w2' : IntKind.i64.wrap (x1 + x2) = x1 + x2 := IntWalk.i64_in _ (by omega)
  have w3' : IntKind.i64.wrap (x1 + x2 + x3) = x1 + x2 + x3 := IntWalk.i64_in _ (by omega)
  have w4' : IntKind.i64.wrap (x1 + x2 + x3 + x4) = x1 + x2 + x3 + x4 := IntWalk.i64_in _ (by omega)
  have w5' : IntKind.i64.wrap (x1 + x2 + x3 + x4 + x5) = x1 + x2 + x3 + x4 + x5 := IntWalk.i64_in _ (by omega)
  have hs0 : ((x1 + x2 + x3 + x4 + x5) == 0) = true := by simpa using hs
  clear hs hb1 hb2 hb3 hb4 hb5
  go_enter Try.func10, Try.ntmps10
  go_wp2_with fail
  refine (CB.out _).mono ?_
  rintro en wa ⟨rfl, b1⟩
  go_wp2_with fail
  refine (C1.out _ (HL.out.next b1)).mono ?_
  rintro en wb ⟨rfl, b2⟩
  have H2 := Lib.hid (bt b1 b2)
  clear b1 b2
  go_wp2
  refine wp_loop_rounds 6 ?_
  rw [rounds_succ]
  go_wp2_with fail
  refine (G1.out _ (HL.out.next H2.out)).mono ?_
  rintro en q1 ⟨rfl, d1⟩
  have D1 := Lib.hid (bt H2.out d1)
  clear d1
  go_wp2
  rw [rounds_succ]
  go_wp2_with fail
  refine (G2.out _ (HL.out.next D1.out)).mono ?_
  rintro en q2 ⟨rfl, d2⟩
  have D2 := Lib.hid (bt D1.out d2)
  clear d2
  go_wp2
  rw [rounds_succ]
  go_wp2_with fail
  refine (G3.out _ (HL.out.next D2.out)).mono ?_
  rintro en q3 ⟨rfl, d3⟩
  have D3 := Lib.hid (bt D2.out d3)
  clear d3
  go_wp2
  rw [rounds_succ]
  go_wp2_with fail
  refine (G4.out _ (HL.out.next D3.out)).mono ?_
  rintro en q4 ⟨rfl, d4⟩
  have D4 := Lib.hid (bt D3.out d4)
  clear d4
  go_wp2
  rw [rounds_succ]
  go_wp2_with fail
  refine (G5.out _ (HL.out.next D4.out)).mono ?_
  rintro en q5 ⟨rfl, d5⟩
  have D5 := Lib.hid (bt D4.out d5)
  clear d5
  go_wp2
  rw [rounds_succ]
  go_wp2
  go_ret
  exact ⟨rfl, D5.out⟩
end Ld
end Go.Proofs.Ytcppeligeodomaa
