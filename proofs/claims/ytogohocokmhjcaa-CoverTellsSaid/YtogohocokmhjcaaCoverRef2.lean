/- The document's best price; what is given back is just what the document says. -/
import Derived.Test.YtogohocokmhjcaaCoverRef
import Derived.Test.YtogohocokmhjcaaRefundLaws
set_option linter.unusedVariables false
namespace Go.Proofs.Ytogohocokmhjcaa
open Go.RowKit
namespace Cv
set_option maxHeartbeats 1000000 in
theorem bestR_any (v : Value) (xs : List Offer) (d : Int) (w : World) (h : Rd 2 eO w v xs) : Calls Try.prog 15 #[v, .int .i64 d] w (BestQ xs d w) := by
  have H := Lib.hid h
  obtain ⟨a, cap, rfl, h1, h2, h3⟩ := h
  clear h3
  by_cases hc : check xs = 0
  · have Hc := Lib.hid hc
    by_cases hd : d < 0 ∨ 400 < d
    · have hf : bestF xs d = (0, 3) := by
        have hr : readyF xs d = 3 := by unfold readyF; rw [if_neg (fun x => x hc), if_pos hd]
        unfold bestF; rw [hr]; rfl
      have Hf := Lib.hid hf; clear hf hc
      rcases (show d < 0 ∨ (0 ≤ d ∧ 400 < d) by omega) with g | ⟨g, g'⟩
      all_goals
        clear hd
        go_enter Try.func15, Try.ntmps15
        go_wp2_with fail
        refine (checkR_any _ xs _ H.out).mono ?_
        rintro en w1 ⟨rfl, hb1⟩
        rw [Hc.out]
        go_wp2
        go_ret2
        exact ⟨by rw [Hf.out]; rfl, hb1⟩
    · obtain ⟨n, rfl, hn⟩ : ∃ n : Nat, d = n ∧ n ≤ 400 := ⟨d.toNat, by omega, by omega⟩
      have hf : bestF xs n = (best xs n, 0) := by
        have hr : readyF xs n = 0 := by unfold readyF; rw [if_neg (fun x => x hc), if_neg hd]
        unfold bestF; rw [hr]; simp
      obtain ⟨hl8, hok⟩ := check_ok hc
      have Hf := Lib.hid hf; have OK := Lib.hid hok
      have i1 : (n : Int) < (n : Int) + 1 := by omega
      have i0 : (0 : Int) ≤ (n : Int) := by omega
      clear hf hok hc hd
      go_enter Try.func15, Try.ntmps15
      go_wp2_with fail
      refine (checkR_any _ xs _ H.out).mono ?_
      rintro en w1 ⟨rfl, hb1⟩
      rw [Hc.out]
      have H1 := Lib.hid (H.out.below hb1)
      go_wp2_with fail
      refine (prices_any _ xs n hn _ H1.out hl8 OK.out).mono ?_
      rintro en w2 ⟨g, cp, T, rfl, g1, g2, hT, hB⟩
      have cn := hT.cell n (Nat.le_refl _)
      rw [hB n (Nat.le_refl _)] at cn
      have hb2 := hT.below
      clear hT hB
      go_wp2
      go_ret2
      exact ⟨by rw [Hf.out]; rfl, bt hb1 hb2⟩
  · have hf : bestF xs d = (0, check xs) := by
      have hr : readyF xs d = check xs := by unfold readyF; rw [if_pos hc]
      unfold bestF; rw [hr, if_pos hc]
    have hb : (check xs == 0) = false := by simp [hc]
    have hb2 : (check xs != 0) = true := by simp [hc]
    generalize hC : check xs = C at *
    have HC := Lib.hid hC; have Hf := Lib.hid hf
    clear hC hf hc
    go_enter Try.func15, Try.ntmps15
    go_wp2_with fail
    refine (checkR_any _ xs _ H.out).mono ?_
    rintro en w1 ⟨rfl, hb1⟩
    rw [HC.out]
    go_wp2
    go_ret2
    exact ⟨by rw [Hf.out]; rfl, hb1⟩
set_option maxHeartbeats 2000000 in
theorem rtells_walk (paid : Int) (v : Value) (xs : List Offer) (used fee : Int) (w : World) (h : Rd 2 eO w v xs) (hp : -9223372036854775808 ≤ paid ∧ paid ≤ 9223372036854775807) :
    Calls Try.prog 3 #[.int .i64 paid, v, .int .i64 used, .int .i64 fee] w fun e w' => e = .returned (.bool true) ∧ Below w.heap.size w w' := by
  have H := Lib.hid h
  obtain ⟨a, cap, rfl, h1, h2, h3⟩ := h
  clear h3
  have hbd := bestF_bd xs used
  by_cases hk : okP paid ∧ okP fee
  · obtain ⟨⟨p0, p1⟩, f0, f1⟩ := hk
    by_cases he : (bestF xs used).2 = 0
    · have hE : bestF xs used = ((bestF xs used).1, 0) := by rw [← he]
      have hf : refF paid xs used fee = (if 0 < paid - (bestF xs used).1 - fee then paid - (bestF xs used).1 - fee else 0, 0) := by
        unfold refF; rw [if_neg (fun x => x ⟨⟨p0, p1⟩, f0, f1⟩), if_neg (fun x => x he)]
      generalize (bestF xs used).1 = B at *
      clear hp
      have HE := Lib.hid hE
      clear he hE
      rcases (show B + fee < paid ∨ paid ≤ B + fee by omega) with g | g
      · rw [if_pos (by omega)] at hf
        have Hf := Lib.hid hf; clear hf
        go_enter Try.func3, Try.ntmps3
        go_wp2_with fail
        refine (worth_any _ xs used _ H.out).mono ?_
        rintro en w1 ⟨rfl, hb1⟩
        rw [HE.out]
        have R1 := Lib.hid (H.out.below hb1)
        go_wp2_with fail
        refine (of_any paid _ xs used fee _ R1.out).mono ?_
        rintro en w2 ⟨rfl, hb2⟩
        rw [Hf.out]
        have R2 := Lib.hid (R1.out.below hb2)
        go_wp2_with fail
        refine (bestR_any _ xs used _ R2.out).mono ?_
        rintro en w3 ⟨rfl, hb3⟩
        rw [HE.out]
        go_wp2_with fail
        refine (rbegun_any _).mono ?_
        rintro en w4 ⟨rfl, hb4⟩
        go_wp2
        go_ret
        exact ⟨by first | rfl | simp, bt (bt (bt hb1 hb2) hb3) hb4⟩
      · rw [if_neg (by omega)] at hf
        have Hf := Lib.hid hf; clear hf
        go_enter Try.func3, Try.ntmps3
        go_wp2_with fail
        refine (worth_any _ xs used _ H.out).mono ?_
        rintro en w1 ⟨rfl, hb1⟩
        rw [HE.out]
        have R1 := Lib.hid (H.out.below hb1)
        go_wp2_with fail
        refine (of_any paid _ xs used fee _ R1.out).mono ?_
        rintro en w2 ⟨rfl, hb2⟩
        rw [Hf.out]
        have R2 := Lib.hid (R1.out.below hb2)
        go_wp2_with fail
        refine (bestR_any _ xs used _ R2.out).mono ?_
        rintro en w3 ⟨rfl, hb3⟩
        rw [HE.out]
        go_wp2_with fail
        refine (rbegun_any _).mono ?_
        rintro en w4 ⟨rfl, hb4⟩
        go_wp2
        go_ret
        exact ⟨by first | rfl | simp, bt (bt (bt hb1 hb2) hb3) hb4⟩
    · have hE : bestF xs used = ((bestF xs used).1, (bestF xs used).2) := rfl
      have hf : refF paid xs used fee = (0, (bestF xs used).2) := by
        unfold refF; rw [if_neg (fun x => x ⟨⟨p0, p1⟩, f0, f1⟩), if_pos he]
      have hne : ((bestF xs used).2 == 0) = false := by simp [he]
      generalize (bestF xs used).1 = B at *
      generalize (bestF xs used).2 = C at *
      have HE := Lib.hid hE; have Hf := Lib.hid hf
      clear hf hE he hp
      go_enter Try.func3, Try.ntmps3
      go_wp2_with fail
      refine (worth_any _ xs used _ H.out).mono ?_
      rintro en w1 ⟨rfl, hb1⟩
      rw [HE.out]
      have R1 := Lib.hid (H.out.below hb1)
      go_wp2_with fail
      refine (of_any paid _ xs used fee _ R1.out).mono ?_
      rintro en w2 ⟨rfl, hb2⟩
      rw [Hf.out]
      have R2 := Lib.hid (R1.out.below hb2)
      go_wp2_with fail
      refine (bestR_any _ xs used _ R2.out).mono ?_
      rintro en w3 ⟨rfl, hb3⟩
      rw [HE.out]
      go_wp2_with fail
      refine (rbegun_any _).mono ?_
      rintro en w4 ⟨rfl, hb4⟩
      go_wp2
      go_ret
      exact ⟨by first | rfl | simp, bt (bt (bt hb1 hb2) hb3) hb4⟩
  · have hf : refF paid xs used fee = (0, 3) := by unfold refF; rw [if_pos hk]
    have hE : bestF xs used = ((bestF xs used).1, (bestF xs used).2) := rfl
    generalize (bestF xs used).1 = B at *
    generalize (bestF xs used).2 = C at *
    have HE := Lib.hid hE; have Hf := Lib.hid hf
    clear hf hE
    rcases (show paid < 0 ∨ (0 ≤ paid ∧ 1099511627776 < paid) ∨ (0 ≤ paid ∧ paid ≤ 1099511627776 ∧ fee < 0) ∨ (0 ≤ paid ∧ paid ≤ 1099511627776 ∧ 0 ≤ fee ∧ 1099511627776 < fee) by unfold okP at hk; omega) with g1 | ⟨g1, g2⟩ | ⟨g1, g2, g3⟩ | ⟨g1, g2, g3, g4⟩
    all_goals
      clear hk
      go_enter Try.func3, Try.ntmps3
      go_wp2_with fail
      refine (worth_any _ xs used _ H.out).mono ?_
      rintro en w1 ⟨rfl, hb1⟩
      rw [HE.out]
      have R1 := Lib.hid (H.out.below hb1)
      go_wp2_with fail
      refine (of_any paid _ xs used fee _ R1.out).mono ?_
      rintro en w2 ⟨rfl, hb2⟩
      rw [Hf.out]
      have R2 := Lib.hid (R1.out.below hb2)
      go_wp2_with fail
      refine (bestR_any _ xs used _ R2.out).mono ?_
      rintro en w3 ⟨rfl, hb3⟩
      rw [HE.out]
      go_wp2_with fail
      refine (rbegun_any _).mono ?_
      rintro en w4 ⟨rfl, hb4⟩
      go_wp2
      go_ret
      exact ⟨by first | rfl | simp, bt (bt (bt hb1 hb2) hb3) hb4⟩
end Cv
end Go.Proofs.Ytogohocokmhjcaa
