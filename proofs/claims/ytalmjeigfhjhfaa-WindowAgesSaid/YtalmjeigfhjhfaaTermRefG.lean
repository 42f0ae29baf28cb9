/- The document's days of terms. -/
import Derived.Test.YtalmjeigfhjhfaaTermRefN
import Derived.Test.YtalmjeigfhjhfaaTermFull
import Derived.Deep.LoopGhost
import Derived.Deep.RegionHeld3
set_option linter.unusedVariables false
namespace Go.Proofs.Ytalmjeigfhjhfaa
open Go.RowKit
namespace Dt
open Sp
/-- a span in a block that is new since W -/
structure Sb (W w : World) (g : Nat) (y e : Int) : Prop where
  below : Below W.heap.size W w
  ge : W.heap.size ≤ g
  lt : g < w.heap.size
  c0 : w.cell? ⟨g, 0, none⟩ = some (.int .i64 y)
  c1 : w.cell? ⟨g, 1, none⟩ = some (.int .i64 e)
theorem Sb.put {W w : World} {g : Nat} {a b : Value} (hb : Below W.heap.size W w) (hg : W.heap.size ≤ g) (x0 : w.cell? ⟨g, 0, none⟩ = some a) (x1 : w.cell? ⟨g, 1, none⟩ = some b) (y e : Int) : Sb W ((w.setCell ⟨g, 0, none⟩ (.int .i64 y)).setCell ⟨g, 1, none⟩ (.int .i64 e)) g y e := by
  have hne : (⟨g, 1, none⟩ : Addr) ≠ ⟨g, 0, none⟩ := fun h => by injection h; omega
  refine ⟨(hb.setCell hg _).setCell hg _, hg, by have := World.block_lt_of_cell? w _ x0; simpa using this, ?_, ?_⟩
  · rw [World.cell?_setCell_other _ _ _ _ hne]; exact World.cell?_setCell_same w _ _ x0
  · exact World.cell?_setCell_same _ _ _ ((World.cell?_setCell_other _ _ _ _ hne.symm).trans x1)
theorem Sb.new {W w : World} (hb : Below W.heap.size W w) (y e : Int) (t : TypeId) : Sb W (w.alloc (.cells #[.int .i64 y, .int .i64 e] t)) w.heap.size y e := by
  refine ⟨hb.alloc hb.size _, hb.size, by simp, ?_, ?_⟩
  · rw [World.cell?_alloc_mark]; rfl
  · rw [World.cell?_alloc_mark]; rfl
set_option maxHeartbeats 2000000 in
theorem fullR_any (s u N many : Int) (w : World) : Calls Try.prog 26 #[.int .i64 s, aT u N, .int .i64 many] w (FullQ u N s many w) := by
  by_cases hc : tchk u N = 0
  · obtain ⟨u1, u2, n1, n2⟩ := tchk_ok hc
    have hF : fullC u N s many = if s < 1 ∨ 3652059 < s ∨ many < 0 ∨ 64 < many then 3 else if ∀ k, k < many.toNat → rawT u N s ((k : Nat) + 1 : Int) ≤ 3652059 then 0 else 8 := by unfold fullC; rw [if_neg (fun x => x hc)]
    have HC := Lib.hid hc; clear hc
    by_cases hs : isD s = true
    · obtain ⟨s1, s2⟩ := of_decide_eq_true hs
      have HS := Lib.hid hs; clear hs
      by_cases hm : 0 ≤ many ∧ many ≤ 64
      · obtain ⟨n, rfl⟩ : ∃ n : Nat, many = n := ⟨many.toNat, by omega⟩
        rw [if_neg (by omega), Int.toNat_natCast] at hF
        have hn : n ≤ 64 := by omega
        have hm0 : (0 : Int) ≤ (n : Int) := by omega
        have HF := Lib.hid hF
        clear hF hm
        unfold aT
        go_enter Try.func26, Try.ntmps26
        go_wp2_with fail
        refine (checkR_any u N _).mono ?_
        rintro en w1 ⟨rfl, hb1⟩
        rw [HC.out]
        have hb1' := bx hb1
        have k0 : w1.cell? ⟨w.heap.size, 0, none⟩ = some (.int .i64 u) := boxc hb1' 0
        have k1 : w1.cell? ⟨w.heap.size, 1, none⟩ = some (.int .i64 N) := boxc hb1' 1
        have lk : w.heap.size < w1.heap.size := boxs hb1'
        have HB1 : Below w.heap.size w w1 := bt ((br _).alloc (Nat.le_refl _) _) hb1
        clear hb1' hb1
        go_wp2_with fail
        refine (noDay_any s _).mono ?_
        rintro en w2 ⟨rfl, rfl⟩
        rw [HS.out]
        have hown0 := Lib.hid (own_nil w1 w1.heap.size)
        have hz := Lib.hid (rawT_zero (u := u) (N := N) s1 s2)
        go_wp2
        go_loopw [9, 10] (fun v z wr => ∃ k : Nat, k ≤ n ∧ z = .int .i64 k ∧ (rawT u N s (k : Int) ≤ 3652059) ∧ (∀ j : Nat, j < k → rawT u N s ((j : Int) + 1) ≤ 3652059) ∧ OwnP wr w1.heap.size v (spansTo u N s k) ∧ Below w1.heap.size w1 wr) (fun _ z _ => n - (intOf z).toNat)
        case atStart => exact ⟨0, Nat.zero_le _, rfl, by rw [show ((0 : Nat) : Int) = 0 from rfl, hz.out]; exact s2, fun j hj => by omega, hown0.out, br _⟩
        case round =>
          obtain ⟨k, hk, rfl, hpre, hall, hown, hbw⟩ := hrel
          have c0 := kp hbw k0; have c1 := kp hbw k1
          have hsp := spansTo_succ u N s k
          have hsl := spansTo_len u N s k
          by_cases hlt : k < n
          · have hd0 : dayR u N s (k : Int) = rawT u N s (k : Int) := by unfold dayR; rw [if_neg (by omega)]
            have hd1 : dayR u N s ((k : Int) + 1) = if 3652059 < rawT u N s ((k : Int) + 1) then 0 else rawT u N s ((k : Int) + 1) := rfl
            have T0 := fun w => termDay_x s u N (k : Int) w u1 u2 n1 n2 s1 s2 (by omega) (by omega)
            have T1 := fun w => termDay_x s u N ((k : Int) + 1) w u1 u2 n1 n2 s1 s2 (by omega) (by omega)
            have hb := rawT_bd (u := u) s1 s2 n1 n2 (by omega : (0 : Int) ≤ (k : Int) + 1) (by omega : (k : Int) + 1 ≤ 1001)
            rw [hd0] at T0
            generalize hXs : spansTo u N s k = Xs at *
            generalize hY : rawT u N s (k : Int) = Y at *
            obtain ⟨Z, hZ⟩ : ∃ Z, rawT u N s ((k : Int) + 1) = Z := ⟨_, rfl⟩
            obtain ⟨E, hE⟩ : ∃ E, dayR u N s ((k : Int) + 1) = E := ⟨_, rfl⟩
            rw [hZ] at hb hsp hd1
            rw [hE] at T1 hd1
            have HZ := Lib.hid hZ
            have T0 := Lib.hid T0; have T1 := Lib.hid T1
            have hwk : IntKind.i64.wrap ((k : Int) + 1) = (k : Int) + 1 := IntWalk.i64_in _ (by omega)
            have HALL := Lib.hid hall; have HSP := Lib.hid hsp; have HO := Lib.hid hown; have HBW := Lib.hid hbw; have HXL := Lib.hid hsl; have HY := Lib.hid hY; have HXS := Lib.hid hXs; have HD1 := Lib.hid hd1
            clear hsp hown hbw hall hsl hY hXs hZ hE hd0 hd1
            go_wp2_with fail
            clear k0 k1
            have HC0 := Lib.hid c0; have HC1 := Lib.hid c1
            have HBTB := Lib.hid HB1
            go_region_held3 (fun w' => w'.cell? ⟨w.heap.size, 0, none⟩ = some (.int .i64 u) ∧ w'.cell? ⟨w.heap.size, 1, none⟩ = some (.int .i64 N))
              (first | go_keep | (go_split_ands; (repeat' apply And.intro) <;> first | assumption | exact kp (hWB.out.alloc hWB.out.size _) HC0.out | exact kp (hWB.out.alloc hWB.out.size _) HC1.out | exact kp ((hWB.out.setCell hg _).setCell hg _) HC0.out | exact kp ((hWB.out.setCell hg _).setCell hg _) HC1.out | (with_reducible exact kp hbB (by assumption)) | (with_reducible exact kp hbA (by assumption))))
              (first
                | (go_at_call 46; (with_reducible refine (T0.out _).mono ?_); rintro en wA ⟨rfl, hbA⟩)
                | (go_at_call 46; (with_reducible refine (T1.out _).mono ?_); rintro en wB ⟨rfl, hbB⟩;
                   first
                     | (have hWB : Below wr.heap.size wr wB := bt ((bd (br wr) hbA).alloc (bd (br wr) hbA).size _) hbB; have hg : wr.heap.size ≤ wA.heap.size := (bd (br wr) hbA).size; have x0 : wB.cell? ⟨wA.heap.size, 0, none⟩ = some (.int .i64 0) := boxc (bx hbB) 0; have x1 : wB.cell? ⟨wA.heap.size, 1, none⟩ = some (.int .i64 0) := boxc (bx hbB) 1; have y0 : wB.frozen? ⟨wA.heap.size, 0, none⟩ = false := boxf (bx hbB) 0; have y1 : wB.frozen? ⟨wA.heap.size, 1, none⟩ = false := boxf (bx hbB) 1; have hWB := Lib.hid hWB)
                     | (have hbZ := bd (br (wr.alloc _)) hbA; have hWB : Below wr.heap.size wr wB := bt (bt ((br wr).alloc (Nat.le_refl _) _) hbZ) hbB; have hg : wr.heap.size ≤ wr.heap.size := Nat.le_refl _; have x0 : wB.cell? ⟨wr.heap.size, 0, none⟩ = some (.int .i64 0) := kp hbB (boxc (bx hbZ) 0); have x1 : wB.cell? ⟨wr.heap.size, 1, none⟩ = some (.int .i64 0) := kp hbB (boxc (bx hbZ) 1); have y0 : wB.frozen? ⟨wr.heap.size, 0, none⟩ = false := (hbB.frozen (p := ⟨wr.heap.size, 0, none⟩) (boxs (bx hbZ))).trans (boxf (bx hbZ) 0); have y1 : wB.frozen? ⟨wr.heap.size, 1, none⟩ = false := (hbB.frozen (p := ⟨wr.heap.size, 1, none⟩) (boxs (bx hbZ))).trans (boxf (bx hbZ) 1); have hWB := Lib.hid hWB)
                     | (have hWB : Below wr.heap.size wr wB := bt (bd (br wr) hbA) hbB; have hWB := Lib.hid hWB)))
            all_goals
              first
                | (have x0 : wB.cell? ⟨wA.heap.size, 0, none⟩ = some (.int .i64 0) := x0; have SB := Lib.hid (Sb.put hWB.out hg x0 x1 Y E); generalize (wB.setCell ⟨wA.heap.size, 0, none⟩ (.int .i64 Y)).setCell ⟨wA.heap.size, 1, none⟩ (.int .i64 E) = wx at *; clear hg x0 x1 y0 y1 hbA hbB hWB; generalize wA.heap.size = gq at *)
                | (have SB := Lib.hid (Sb.put hWB.out hg x0 x1 Y E); generalize (wB.setCell ⟨wr.heap.size, 0, none⟩ (.int .i64 Y)).setCell ⟨wr.heap.size, 1, none⟩ (.int .i64 E) = wx at *; clear hg x0 x1 y0 y1 hbA hbB hbZ hWB; obtain ⟨gq, hgq⟩ : ∃ gq, wr.heap.size = gq := ⟨_, rfl⟩; rw [hgq] at SB; have hgq := Lib.hid hgq; simp only [hgq.out])
                | (have SB := Lib.hid (Sb.new hWB.out Y E 29); generalize wB.alloc (.cells #[.int .i64 Y, .int .i64 E] 29) = wx at *; clear hbA hbB hWB; generalize wB.heap.size = gq at *)
            all_goals
              have s0 := SB.out.c0; have s1' := SB.out.c1
              have HBX := Lib.hid (HBW.out.trans (SB.out.below.mono HBW.out.size))
              by_cases hov : 3652059 < Z
              · have hE := HD1.out
                rw [if_pos hov] at hE
                subst hE
                have h8 : fullC u N s n = 8 := by rw [HF.out, if_neg (fun h => by have := h k hlt; rw [HZ.out] at this; omega)]
                have H8 := Lib.hid h8
                clear h8
                go_wp2
                go_ret2
                exact ⟨_, [], by rw [H8.out]; rfl, (own_nil _ 0).rd, by have h1 := HBTB.out; exact bt h1 HBX.out, by rw [H8.out]; rfl⟩
              · have hE := HD1.out
                rw [if_neg hov] at hE
                subst hE
                have hne : (E == 0) = false := by simp; omega
                have hall2 : ∀ j : Nat, j < k + 1 → rawT u N s ((j : Int) + 1) ≤ 3652059 := fun j hj => by
                  by_cases e : j = k
                  · subst e; rw [HZ.out]; omega
                  · exact HALL.out j (by omega)
                have HA := Lib.hid hall2
                have HO2 := Lib.hid (HO.out.next SB.out.below)
                clear hall2
                go_wp2_with (at_builtin; refine app_span rfl (.tmp 49) (.tmp 51) rfl w1.heap.size _ Xs rfl (HO2.out.next ((br _).alloc (Nat.le_refl _) (.cells #[.int .i64 Y, .int .i64 E] 29))) wx.heap.size 1 Y E rfl (by rw [World.cell?_alloc_mark]; rfl) (by rw [World.cell?_alloc_mark]; rfl) (by have := HXL.out; omega) (by have := HBX.out.size; simp; omega) ?_; intro v1 w5 hown1 hb5 hfar5; have HO1 := Lib.hid hown1; have HB5 := Lib.hid ((HBX.out.alloc HBX.out.size _).trans hb5); clear hown1 hfar5 hb5)
                go_roundw
                case rel => exact ⟨k + 1, by omega, by go_num, by rw [show ((k + 1 : Nat) : Int) = (k : Int) + 1 by omega, HZ.out]; omega, HA.out, by rw [HSP.out]; exact HO1.out, HB5.out⟩
                case measure => simp [intOf]; omega
          · have hkn : k = n := by omega
            subst hkn
            have h0 : fullC u N s k = 0 := by rw [HF.out, if_pos (fun j hj => hall j hj)]
            have H0 := Lib.hid h0; have HO := Lib.hid hown; have HBW := Lib.hid hbw
            clear h0 hall hown hbw hsp hsl
            go_wp2
            go_ret2
            exact ⟨_, _, by rw [H0.out]; rfl, HO.out.rd, bt HB1 HBW.out, by rw [if_pos H0.out, Int.toNat_natCast]⟩
      · rw [if_pos (by omega)] at hF
        have HF := Lib.hid hF; clear hF
        rcases (show many < 0 ∨ (0 ≤ many ∧ 64 < many) by omega) with h | ⟨h1, h⟩
        all_goals
          clear hm
          unfold aT
          go_enter Try.func26, Try.ntmps26
          go_wp2_with fail
          refine (checkR_any u N _).mono ?_
          rintro en w1 ⟨rfl, hb1⟩
          rw [HC.out]
          go_wp2_with fail
          refine (noDay_any s _).mono ?_
          rintro en w2 ⟨rfl, rfl⟩
          rw [HS.out]
          go_wp2
          go_ret2
          exact ⟨_, [], by rw [HF.out]; rfl, (own_nil _ 0).rd, bt ((br _).alloc (Nat.le_refl _) _) hb1, by rw [HF.out]; rfl⟩
    · have hs' : s < 1 ∨ 3652059 < s := by
        rcases Classical.em (1 ≤ s ∧ s ≤ 3652059) with h | h
        · exact absurd (isD_yes h.1 h.2) hs
        · omega
      rw [if_pos (by omega)] at hF
      have HF := Lib.hid hF; have HS := Lib.hid (isD_no hs'); clear hF hs hs'
      unfold aT
      go_enter Try.func26, Try.ntmps26
      go_wp2_with fail
      refine (checkR_any u N _).mono ?_
      rintro en w1 ⟨rfl, hb1⟩
      rw [HC.out]
      go_wp2_with fail
      refine (noDay_any s _).mono ?_
      rintro en w2 ⟨rfl, rfl⟩
      rw [HS.out]
      go_wp2
      go_ret2
      exact ⟨_, [], by rw [HF.out]; rfl, (own_nil _ 0).rd, bt ((br _).alloc (Nat.le_refl _) _) hb1, by rw [HF.out]; rfl⟩
  · have hF : fullC u N s many = tchk u N := by unfold fullC; rw [if_pos hc]
    have hb : (tchk u N != 0) = true := by simp [hc]
    have hb' : (tchk u N == 0) = false := by simp [hc]
    have hne : ¬fullC u N s many = 0 := by rw [hF]; exact hc
    generalize hC : tchk u N = C at *
    have HF := Lib.hid hF; have HC := Lib.hid hC; have HN := Lib.hid hne; clear hF hc hC hne
    unfold aT
    go_enter Try.func26, Try.ntmps26
    go_wp2_with fail
    refine (checkR_any u N _).mono ?_
    rintro en w1 ⟨rfl, hb1⟩
    rw [HC.out]
    go_wp2
    go_ret2
    exact ⟨_, [], by rw [HF.out]; rfl, (own_nil _ 0).rd, bt ((br _).alloc (Nat.le_refl _) _) hb1, by rw [if_neg HN.out]⟩
end Dt
end Go.Proofs.Ytalmjeigfhjhfaa
