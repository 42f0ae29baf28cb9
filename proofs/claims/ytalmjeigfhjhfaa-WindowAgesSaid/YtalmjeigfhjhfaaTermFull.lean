/- The days of terms; two lists of spans compared. -/
import Derived.Test.YtalmjeigfhjhfaaTermWalks2
import Derived.Test.YtalmjeigfhjhfaaSpanOwn
import Derived.Deep.LoopGhost
set_option linter.unusedVariables false
namespace Go.Proofs.Ytalmjeigfhjhfaa
open Go.RowKit
namespace Dt
open Sp
def spansTo (u N s : Int) (k : Nat) : List (Int × Int) := (List.range k).map (fun i : Nat => (rawT u N s (i : Int), rawT u N s ((i : Int) + 1)))
theorem spansTo_succ (u N s : Int) (k : Nat) : spansTo u N s (k + 1) = spansTo u N s k ++ [(rawT u N s (k : Int), rawT u N s ((k : Int) + 1))] := by
  unfold spansTo; rw [List.range_succ, List.map_append]; rfl
theorem spansTo_len (u N s : Int) (k : Nat) : (spansTo u N s k).length = k := by unfold spansTo; simp
def fullC (u N s many : Int) : Int := if tchk u N ≠ 0 then tchk u N else if s < 1 ∨ 3652059 < s ∨ many < 0 ∨ 64 < many then 3 else if ∀ k, k < many.toNat → rawT u N s ((k : Nat) + 1 : Int) ≤ 3652059 then 0 else 8
def FullQ (u N s many : Int) (w : World) (e : Ending) (w' : World) : Prop :=
  ∃ v L, e = .returned (.tuple #[v, .int .i64 (fullC u N s many)]) ∧ Rd 2 eP w' v L ∧ Below w.heap.size w w' ∧ L = if fullC u N s many = 0 then spansTo u N s many.toNat else []
set_option maxHeartbeats 2000000 in
theorem full_any (s u N many : Int) (w : World) : Calls Try.prog 23 #[.int .i64 s, aT u N, .int .i64 many] w (FullQ u N s many w) := by
  by_cases hc : tchk u N = 0
  · obtain ⟨u1, u2, n1, n2⟩ := tchk_ok hc
    have hF : fullC u N s many = if s < 1 ∨ 3652059 < s ∨ many < 0 ∨ 64 < many then 3 else if ∀ k, k < many.toNat → rawT u N s ((k : Nat) + 1 : Int) ≤ 3652059 then 0 else 8 := by unfold fullC; rw [if_neg (fun x => x hc)]
    have HC := Lib.hid hc; clear hc
    by_cases hs : isD s = true
    · obtain ⟨s1, s2⟩ := of_decide_eq_true hs
      have HS := Lib.hid hs; clear hs
      by_cases hm : 0 ≤ many ∧ many ≤ 64
      · obtain ⟨n, rfl⟩ : ∃ n : Nat, many = n := ⟨many.toNat, by omega⟩
        rw [if_neg (by omega), Int.toNat_natCast] at hF
        have hn : n ≤ 64 := by omega
        have hm0 : (0 : Int) ≤ (n : Int) := by omega
        have HF := Lib.hid hF
        clear hF hm
        unfold aT
        go_enter Try.func23, Try.ntmps23
        go_wp2_with fail
        refine (check_any u N _).mono ?_
        rintro en w1 ⟨rfl, hb1⟩
        rw [HC.out]
        go_wp2_with fail
        refine (is_any _ _).mono ?_
        rintro en w2 ⟨rfl, rfl⟩
        rw [HS.out]
        have hb1' := bx hb1
        have k0 : w1.cell? ⟨w.heap.size, 0, none⟩ = some (.int .i64 u) := boxc hb1' 0
        have k1 : w1.cell? ⟨w.heap.size, 1, none⟩ = some (.int .i64 N) := boxc hb1' 1
        have lk : w.heap.size < w1.heap.size := boxs hb1'
        have HB1 : Below w.heap.size w w1 := bt ((br _).alloc (Nat.le_refl _) _) hb1
        clear hb1' hb1
        have hown0 := Lib.hid (own_nil w1 w1.heap.size)
        have hz := Lib.hid (rawT_zero (u := u) (N := N) s1 s2)
        go_wp2
        go_loopw [9, 10, 31] (fun v f z wr => ∃ k : Nat, k ≤ n ∧ z = .int .i64 k ∧ f = .int .i64 (rawT u N s (k : Int)) ∧ (∀ j : Nat, j < k → rawT u N s ((j : Int) + 1) ≤ 3652059) ∧ OwnP wr w1.heap.size v (spansTo u N s k) ∧ Below w1.heap.size w1 wr) (fun _ _ z _ => n - (intOf z).toNat)
        case atStart => exact ⟨0, Nat.zero_le _, rfl, by rw [show ((0 : Nat) : Int) = 0 from rfl, hz.out], fun j hj => by omega, hown0.out, br _⟩
        case round =>
          obtain ⟨k, hk, rfl, rfl, hall, hown, hbw⟩ := hrel
          have c0 := kp hbw k0; have c1 := kp hbw k1
          have hsp := spansTo_succ u N s k
          have hsl := spansTo_len u N s k
          by_cases hlt : k < n
          · have hb := rawT_bd (u := u) s1 s2 n1 n2 (by omega : (0 : Int) ≤ (k : Int) + 1) (by omega : (k : Int) + 1 ≤ 1001)
            generalize hXs : spansTo u N s k = Xs at *
            generalize hY : rawT u N s (k : Int) = Y at *
            obtain ⟨Z, hZ⟩ : ∃ Z, rawT u N s ((k : Int) + 1) = Z := ⟨_, rfl⟩
            rw [hZ] at hb hsp
            have HZ := Lib.hid hZ
            by_cases g : Z ≤ 3652059
            · have hI := isD_yes hb.1 g
              have hall2 : ∀ j : Nat, j < k + 1 → rawT u N s ((j : Int) + 1) ≤ 3652059 := fun j hj => by
                by_cases e : j = k
                · subst e; rw [hZ]; exact g
                · exact hall j (by omega)
              have HA := Lib.hid hall2; have HI := Lib.hid hI; have HSP := Lib.hid hsp; have HO := Lib.hid hown; have HBW := Lib.hid hbw; have HXL := Lib.hid hsl; have HY := Lib.hid hY; have HXS := Lib.hid hXs
              clear hall2 hI hsp hown hbw hall hsl hY hXs hZ
              go_wp2_with fail
              refine (rawTm_x s u N ((k : Int) + 1) _ u1 u2 n1 n2 s1 s2 (by omega) (by omega)).mono ?_
              rintro en w3 ⟨rfl, hb3⟩
              rw [HZ.out]
              go_wp2_with fail
              refine (is_any _ _).mono ?_
              rintro en w4 ⟨rfl, rfl⟩
              rw [HI.out]
              have HB3 := Lib.hid (HBW.out.trans (hb3.mono HBW.out.size))
              have HO3 := Lib.hid (HO.out.next hb3)
              clear hb3 HO
              go_wp2_with (at_builtin; refine app_span rfl (.tmp 42) (.tmp 46) rfl w1.heap.size _ Xs rfl (HO3.out.next ((br _).alloc (Nat.le_refl _) (.cells #[.int .i64 Y, .int .i64 Z] 29))) w3.heap.size 1 Y Z rfl (by rw [World.cell?_alloc_mark]; rfl) (by rw [World.cell?_alloc_mark]; rfl) (by have := HXL.out; omega) (by have := HB3.out.size; simp; omega) ?_; intro v1 w5 hown1 hb5 hfar5; have HO1 := Lib.hid hown1; have HB5 := Lib.hid ((HB3.out.alloc HB3.out.size _).trans hb5); clear hown1 hfar5 hb5)
              go_roundw
              case rel => exact ⟨k + 1, by omega, by go_num, by rw [show ((k + 1 : Nat) : Int) = (k : Int) + 1 by omega, HZ.out], HA.out, by rw [HSP.out]; exact HO1.out, HB5.out⟩
              case measure => simp [intOf]; omega
            · have hI := isD_no (.inr (Int.not_le.mp g))
              have h8 : fullC u N s n = 8 := by rw [HF.out, if_neg (fun h => by have := h k hlt; rw [hZ] at this; exact g this)]
              have H8 := Lib.hid h8; have HI := Lib.hid hI; have HBW := Lib.hid hbw
              clear hI h8 hsp hown hbw hall hsl hY hXs hZ
              go_wp2_with fail
              refine (rawTm_x s u N ((k : Int) + 1) _ u1 u2 n1 n2 s1 s2 (by omega) (by omega)).mono ?_
              rintro en w3 ⟨rfl, hb3⟩
              rw [HZ.out]
              go_wp2_with fail
              refine (is_any _ _).mono ?_
              rintro en w4 ⟨rfl, rfl⟩
              rw [HI.out]
              go_wp2
              go_ret2
              exact ⟨_, [], by rw [H8.out]; rfl, (own_nil _ 0).rd, bt HB1 (HBW.out.trans (hb3.mono HBW.out.size)), by rw [H8.out]; rfl⟩
          · have hkn : k = n := by omega
            subst hkn
            have h0 : fullC u N s k = 0 := by rw [HF.out, if_pos (fun j hj => hall j hj)]
            have H0 := Lib.hid h0; have HO := Lib.hid hown; have HBW := Lib.hid hbw
            clear h0 hall hown hbw hsp hsl
            go_wp2
            go_ret2
            exact ⟨_, _, by rw [H0.out]; rfl, HO.out.rd, bt HB1 HBW.out, by rw [if_pos H0.out, Int.toNat_natCast]⟩
      · rw [if_pos (by omega)] at hF
        have HF := Lib.hid hF; clear hF
        rcases (show many < 0 ∨ (0 ≤ many ∧ 64 < many) by omega) with h | ⟨h1, h⟩
        · clear hm
          unfold aT
          go_enter Try.func23, Try.ntmps23
          go_wp2_with fail
          refine (check_any u N _).mono ?_
          rintro en w1 ⟨rfl, hb1⟩
          rw [HC.out]
          go_wp2_with fail
          refine (is_any _ _).mono ?_
          rintro en w2 ⟨rfl, rfl⟩
          rw [HS.out]
          go_wp2
          go_ret2
          exact ⟨_, [], by rw [HF.out]; rfl, (own_nil _ 0).rd, bt ((br _).alloc (Nat.le_refl _) _) hb1, by rw [HF.out]; rfl⟩
        · clear hm
          unfold aT
          go_enter Try.func23, Try.ntmps23
          go_wp2_with fail
          refine (check_any u N _).mono ?_
          rintro en w1 ⟨rfl, hb1⟩
          rw [HC.out]
          go_wp2_with fail
          refine (is_any _ _).mono ?_
          rintro en w2 ⟨rfl, rfl⟩
          rw [HS.out]
          go_wp2
          go_ret2
          exact ⟨_, [], by rw [HF.out]; rfl, (own_nil _ 0).rd, bt ((br _).alloc (Nat.le_refl _) _) hb1, by rw [HF.out]; rfl⟩
    · have hs' : s < 1 ∨ 3652059 < s := by
        rcases Classical.em (1 ≤ s ∧ s ≤ 3652059) with h | h
        · exact absurd (isD_yes h.1 h.2) hs
        · omega
      rw [if_pos (by omega)] at hF
      have HF := Lib.hid hF; have HS := Lib.hid (isD_no hs'); clear hF hs hs'
      unfold aT
      go_enter Try.func23, Try.ntmps23
      go_wp2_with fail
      refine (check_any u N _).mono ?_
      rintro en w1 ⟨rfl, hb1⟩
      rw [HC.out]
      go_wp2_with fail
      refine (is_any _ _).mono ?_
      rintro en w2 ⟨rfl, rfl⟩
      rw [HS.out]
      go_wp2
      go_ret2
      exact ⟨_, [], by rw [HF.out]; rfl, (own_nil _ 0).rd, bt ((br _).alloc (Nat.le_refl _) _) hb1, by rw [HF.out]; rfl⟩
  · have hF : fullC u N s many = tchk u N := by unfold fullC; rw [if_pos hc]
    have hb : (tchk u N != 0) = true := by simp [hc]
    have hne : ¬fullC u N s many = 0 := by rw [hF]; exact hc
    generalize hC : tchk u N = C at *
    have HF := Lib.hid hF; have HC := Lib.hid hC; have HN := Lib.hid hne; clear hF hc hC hne
    unfold aT
    go_enter Try.func23, Try.ntmps23
    go_wp2_with fail
    refine (check_any u N _).mono ?_
    rintro en w1 ⟨rfl, hb1⟩
    rw [HC.out]
    go_wp2
    go_ret2
    exact ⟨_, [], by rw [HF.out]; rfl, (own_nil _ 0).rd, bt ((br _).alloc (Nat.le_refl _) _) hb1, by rw [if_neg HN.out]⟩
end Dt
end Go.Proofs.Ytalmjeigfhjhfaa
