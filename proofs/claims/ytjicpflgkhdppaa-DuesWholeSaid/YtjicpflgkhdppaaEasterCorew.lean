/- Package easter and the document's Easter: the functions and their contracts. -/
import Derived.Test.YtjicpflgkhdppaaDateRef2w
import Derived.Test.YtjicpflgkhdppaaEasterPlain
set_option linter.unusedSimpArgs false
set_option linter.unusedVariables false
namespace Go.Proofs.Ytjicpflgkhdppaa
open Go.RowKit
namespace Dt
theorem divided_any (a b : Int) (w : World) (h0 : 0 ≤ a) (h2 : a ≤ 1000000000) (h1 : 1 ≤ b) (h3 : b ≤ 1000000) : Calls Try.prog 100 #[.int .i64 a, .int .i64 b] w fun e w' => e = .returned (.tuple #[.int .i64 (a / b), .int .i64 (a % b)]) ∧ Below w.heap.size w w' := by
  have hb0 : (b == 0) = false := beq_eq_false_iff_ne.2 (by omega)
  have hq : 0 ≤ a / b := Int.ediv_nonneg h0 (by omega)
  have hq2 : a / b ≤ a := Int.ediv_le_self b h0
  have s1 := IntWalk.i64_in (a / b) (by omega)
  have t1 : a.tdiv b = a / b := Int.tdiv_eq_ediv_of_nonneg h0
  have t2 : a.tmod b = a % b := Int.tmod_eq_emod_of_nonneg h0
  go_enter Try.func100, Try.ntmps100
  go_wp2
  go_quiet (fail)
  go_wp2
  go_ret2
  exact ⟨rfl, bn (br _) _⟩
theorem divided_eq (a b q r : Int) (w : World) (h0 : 0 ≤ a) (h2 : a ≤ 1000000000) (h1 : 1 ≤ b) (h3 : b ≤ 1000000) (hq : a / b = q) (hr : a % b = r) : Calls Try.prog 100 #[.int .i64 a, .int .i64 b] w fun e w' => e = .returned (.tuple #[.int .i64 q, .int .i64 r]) ∧ Below w.heap.size w w' := by
  rw [← hq, ← hr]
  exact divided_any a b w h0 h2 h1 h3
def sunF (y : Int) : Int × Int := if 1583 ≤ y ∧ y ≤ 9999 then (easter y, 0) else (0, 3)
def SunQ (y : Int) (w : World) (e : Ending) (w' : World) : Prop := e = .returned (.tuple #[.int .i64 (sunF y).1, .int .i64 (sunF y).2]) ∧ Below w.heap.size w w'
set_option maxHeartbeats 1000000 in
theorem sunday_core (y a b c d e i k H L M P x0 : Int) (w : World) (h1 : 1583 ≤ y) (h2 : y ≤ 9999) (x1 : RowKit.Hid (y / 19 = x0)) (x2 : RowKit.Hid (y % 19 = a)) (x3 : RowKit.Hid (y / 100 = b)) (x4 : RowKit.Hid (y % 100 = c)) (x5 : RowKit.Hid (b / 4 = d)) (x6 : RowKit.Hid (b % 4 = e)) (x7 : RowKit.Hid (c / 4 = i)) (x8 : RowKit.Hid (c % 4 = k))
    (ha : 0 ≤ a ∧ a ≤ 18) (hb : 15 ≤ b ∧ b ≤ 99) (hc : 0 ≤ c ∧ c ≤ 99) (hd : 0 ≤ d ∧ d ≤ 24) (he : 0 ≤ e ∧ e ≤ 3) (hi : 0 ≤ i ∧ i ≤ 24) (hk : 0 ≤ k ∧ k ≤ 3) (hH : 0 ≤ H ∧ H ≤ 29) (hP : 0 ≤ P ∧ P ≤ 200)
    (Eh : RowKit.Hid ((19 * a + b - d - (b - (b + 8) / 25 + 1) / 3 + 15) % 30 = H)) (El : RowKit.Hid ((32 + 2 * e + 2 * i - H - k) % 7 = L)) (Em : RowKit.Hid ((a + 11 * H + 22 * L) / 451 = M)) (Ep : RowKit.Hid (H + L - 7 * M + 114 = P)) (R : RowKit.Hid (1 ≤ P / 31 ∧ P / 31 ≤ 12)) : Calls Try.prog 87 #[.int .i64 y] w fun en w' => en = .returned (.tuple #[.int .i64 (raw y (P / 31) (P % 31 + 1)), .int .i64 0]) ∧ Below w.heap.size w w' := by
  go_enter Try.func87, Try.ntmps87

  go_wp2_with fail
  refine (divided_eq y 19 x0 a _ (by omega) (by omega) (by decide) (by decide) x1.out x2.out).mono ?_
  rintro en w1 ⟨rfl, hb_w1⟩
  have n_w1 := hb_w1
  have H_w1 := n_w1
  go_wp2_with fail
  refine (divided_eq y 100 b c _ (by omega) (by omega) (by decide) (by decide) x3.out x4.out).mono ?_
  rintro en w2 ⟨rfl, hb_w2⟩
  have n_w2 := hb_w2
  have H_w2 := bt H_w1 n_w2
  go_wp2_with fail
  refine (divided_eq b 4 d e _ (by omega) (by omega) (by decide) (by decide) x5.out x6.out).mono ?_
  rintro en w3 ⟨rfl, hb_w3⟩
  have n_w3 := hb_w3
  have H_w3 := bt H_w2 n_w3
  have eh := Eh.out
  go_wp2_with fail
  refine (divided_eq c 4 i k _ (by omega) (by omega) (by decide) (by decide) x7.out x8.out).mono ?_
  rintro en w4 ⟨rfl, hb_w4⟩
  have n_w4 := hb_w4
  have H_w4 := bt H_w3 n_w4
  simp only [eh]
  clear eh
  go_wp2_with fail
  simp only [El.out, Em.out, Ep.out]
  go_wp2_with fail
  refine (divided_eq P 31 (P / 31) (P % 31) _ (by omega) (by omega) (by decide) (by decide) rfl rfl).mono ?_
  rintro en w5 ⟨rfl, hb_w5⟩
  have n_w5 := hb_w5
  have H_w5 := bt H_w4 n_w5
  have hr := R.out
  go_wp2_with fail
  refine (raw_any y (P / 31) (P % 31 + 1) _ (by omega) (by omega) hr.1 hr.2 (by omega) (by omega)).mono ?_
  rintro en w6 ⟨rfl, hb_w6⟩
  have n_w6 := hb_w6
  have H_w6 := bt H_w5 n_w6
  go_wp2
  go_ret2
  exact ⟨rfl, H_w6⟩
end Dt
end Go.Proofs.Ytjicpflgkhdppaa
