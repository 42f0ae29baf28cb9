/- The document's functions on dates and weeks, second part. -/
import Derived.Test.YtcgncmlldjblmaaDateRef
set_option linter.unusedSimpArgs false
set_option linter.unusedVariables false
namespace Go.Proofs.Ytcgncmlldjblmaa
open Go.RowKit
namespace Dt
set_option maxHeartbeats 1000000 in
theorem dateOfR_any (n : Int) (w : World) : Calls Try.prog 62 #[.int .i64 n] w (OfQ n w) := by
  by_cases h : 1 ≤ n ∧ n ≤ 3652059
  · have hf : ofF n = (dateOf n, 0) := by unfold ofF; rw [if_pos h]
    obtain ⟨h1, h2⟩ := h
    have hr0 : 0 ≤ (n + 305) % 146097 := by omega
    have hr1 : (n + 305) % 146097 < 146097 := by omega
    have he0 : 0 ≤ (n + 305) / 146097 := by omega
    have he1 : (n + 305) / 146097 ≤ 24 := by omega
    have hd : dateOf n = if mp ((n + 305) % 146097) + 3 > 12 then ((n + 305) / 146097 * 400 + yoe ((n + 305) % 146097) + 1, mp ((n + 305) % 146097) - 9, dom ((n + 305) % 146097)) else ((n + 305) / 146097 * 400 + yoe ((n + 305) % 146097), mp ((n + 305) % 146097) + 3, dom ((n + 305) % 146097)) := rfl
    generalize hee : (n + 305) / 146097 = e at *
    generalize hrr : (n + 305) % 146097 = r at *
    have hy : (r - r / 1460 + r / 36524 - r / 146096) / 365 = yoe r := rfl
    have hdy : r - (365 * yoe r + yoe r / 4 - yoe r / 100) = doy r := rfl
    have hm : (5 * doy r + 2) / 153 = mp r := rfl
    have ho : doy r - (153 * mp r + 2) / 5 + 1 = dom r := rfl
    obtain ⟨ya, yb, yc, yd⟩ := yoe_spec r hr0 hr1
    have hy4 : yoe r / 400 = 0 := by omega
    have hdd : sy (yoe r) = 365 * yoe r + yoe r / 4 - yoe r / 100 := by unfold sy; omega
    have hde : sy (yoe r + 1) ≤ sy (yoe r) + 367 := by unfold sy; omega
    have hdy0 : 0 ≤ doy r ∧ doy r ≤ 367 := by omega
    have hm0 : 0 ≤ mp r ∧ mp r ≤ 12 := by omega
    have ho0 : 0 ≤ dom r ∧ dom r ≤ 400 := by omega
    clear hy4 hdd hde yc yd
    generalize yoe r = Y at *
    generalize doy r = V at *
    generalize mp r = M at *
    generalize dom r = O at *
    have Hf := Lib.hid hf
    have Hd := Lib.hid hd
    clear hf hd
    by_cases hc : M + 3 > 12
    · rw [if_pos hc] at Hd
      go_enter Try.func62, Try.ntmps62
      go_wp2
      refine bodyPost_ret (v := .tuple #[.agg #[.int .i64 (e * 400 + Y + 1), .int .i64 (M + 3 - 12), .int .i64 O], .int .i64 0]) (by simp [results, Try.results62, go_sem]) rfl ⟨by rw [Hf.out, Hd.out]; show Ending.returned _ = Ending.returned (.tuple #[.agg #[.int .i64 (e * 400 + Y + 1), .int .i64 (M - 9), .int .i64 O], .int .i64 0]); rw [show M + 3 - 12 = M - 9 by omega], ?_⟩
      exact ((br _).alloc (Nat.le_refl _) _).alloc (by simp) _
    · rw [if_neg hc] at Hd
      go_enter Try.func62, Try.ntmps62
      go_wp2
      refine bodyPost_ret (v := .tuple #[.agg #[.int .i64 (e * 400 + Y), .int .i64 (M + 3), .int .i64 O], .int .i64 0]) (by simp [results, Try.results62, go_sem]) rfl ⟨by rw [Hf.out, Hd.out]; rfl, ?_⟩
      exact ((br _).alloc (Nat.le_refl _) _).alloc (by simp) _
  · have hf : ofF n = ((0, 0, 0), 3) := by unfold ofF; rw [if_neg h]
    have Hf := Lib.hid hf; clear hf
    rcases (show n < 1 ∨ 3652059 < n by omega) with g | g
    all_goals
      clear h
      go_enter Try.func62, Try.ntmps62
      go_wp2
      refine bodyPost_ret (v := .tuple #[aD (0, 0, 0), .int .i64 3]) (by simp [results, Try.results62, go_sem, aD]) rfl ⟨by rw [Hf.out], ?_⟩
      exact (br _).alloc (Nat.le_refl _) _

end Dt
end Go.Proofs.Ytcgncmlldjblmaa
