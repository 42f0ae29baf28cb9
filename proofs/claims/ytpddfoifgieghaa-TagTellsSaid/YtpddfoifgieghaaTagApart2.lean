/- No two texts have the same words: the walk. -/
import Derived.Test.YtpddfoifgieghaaTagApart
import Derived.Test.YtpddfoifgieghaaTagLaws
import Derived.Deep.RegionWith
import Derived.Deep.RegionHeld3
set_option linter.unusedVariables false
namespace Go.Proofs.Ytpddfoifgieghaa
open Go.RowKit
namespace Tg
theorem words_x (s : ByteArray) (w : World) (hs : s.size ≤ 140737488351232) : Calls Try.prog 14 #[.string s] w fun e w' => ∃ v, e = .returned v ∧ Wd w' v (words s.data.toList) ∧ Below w.heap.size w w' :=
  (words_any s w hs).mono fun _ _ h => Wd.of_q h
set_option maxHeartbeats 1000000 in
theorem wapart_walk (s t : ByteArray) (w : World) (hs : s.size ≤ 140737488351232) (ht : t.size ≤ 140737488351232) : Calls Try.prog 4 #[.string s, .string t] w fun e w' => e = .returned (.bool true) ∧ Below w.heap.size w w' := by
  have hb : decide (words s.data.toList = words t.data.toList) = (s.toList == t.toList) := by
    rw [ByteArray.toList_eq, ByteArray.toList_eq, Bool.eq_iff_iff, decide_eq_true_iff, beq_iff_eq]
    exact ⟨words_inj _ _, fun e => by rw [e]⟩
  have hlen : ((words s.data.toList).length : Int) = (s.size : Int) / 8 + 1 := by
    rw [words_len]; simp
  have HB := Lib.hid hb; clear hb
  have HLEN := Lib.hid hlen; clear hlen
  go_enter Try.func4, Try.ntmps4
  go_wp2_with fail
  refine (begun_any _).mono ?_
  rintro en w1 ⟨rfl, hb1⟩
  go_wp2_with fail
  refine (words_x s _ hs).mono ?_
  rintro en w2 ⟨v, rfl, hv, hb2⟩
  go_wp2_with fail
  refine (words_x t _ ht).mono ?_
  rintro en w3 ⟨u, rfl, hu, hb3⟩
  have hv := hv.below hb3
  go_wp2_with fail
  refine (samew_any v u _ _ _ hv hu).mono ?_
  rintro en w4 ⟨rfl, hb4⟩
  rw [HB.out]
  go_wp2_with fail
  refine (words_x s _ hs).mono ?_
  rintro en w5 ⟨v5, rfl, hv5, hb5⟩
  obtain ⟨g5, rfl, hg5, hn5, hc5⟩ := hv5
  have hl := HLEN.out
  clear hc5 HB hv hu
  generalize (words s.data.toList).length = N at *
  have hq : ((s.size : Int).tdiv 8) = (s.size : Int) / 8 := Int.tdiv_eq_ediv_of_nonneg (by omega)
  have hlb : (s.size : Int) / 8 + 1 ≤ 9223372036854775807 := by omega
  have hlc : -9223372036854775808 ≤ (s.size : Int) / 8 + 1 := by omega
  go_wp2
  go_ret
  exact ⟨rfl, bt (bt (bt (bt hb1 hb2) hb3) hb4) hb5⟩
end Tg
end Go.Proofs.Ytpddfoifgieghaa
