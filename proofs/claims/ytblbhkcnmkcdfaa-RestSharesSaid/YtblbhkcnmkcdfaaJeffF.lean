/- Jefferson's way. -/
import Derived.Test.YtblbhkcnmkcdfaaJeffU
set_option linter.unusedSimpArgs false
set_option linter.unusedVariables false
namespace Go.Proofs.Ytblbhkcnmkcdfaa
open Go.RowKit
namespace Sh
open Stb
theorem Pm_inj {a b : Nat} {d e : Arr} (h : Pm a b d e) (hd : ∀ i j, d i = d j → i = j) : ∀ i j, e i = e j → i = j := by
  induction h with
  | refl => exact hd
  | step p q _ _ _ _ _ ih =>
    intro i j he
    unfold swp at he
    by_cases c1 : i = p
    · rw [if_pos c1] at he
      by_cases c2 : j = p
      · omega
      · rw [if_neg c2] at he
        by_cases c3 : j = q
        · rw [if_pos c3] at he
          have := ih _ _ he; omega
        · rw [if_neg c3] at he
          have := ih _ _ he; omega
    · rw [if_neg c1] at he
      by_cases c2 : i = q
      · rw [if_pos c2] at he
        by_cases c3 : j = p
        · rw [if_pos c3] at he
          have := ih _ _ he; omega
        · rw [if_neg c3] at he
          by_cases c4 : j = q
          · omega
          · rw [if_neg c4] at he
            have := ih _ _ he; omega
      · rw [if_neg c2] at he
        by_cases c3 : j = p
        · rw [if_pos c3] at he
          have := ih _ _ he; omega
        · rw [if_neg c3] at he
          by_cases c4 : j = q
          · rw [if_pos c4] at he
            have := ih _ _ he; omega
          · rw [if_neg c4] at he
            exact ih _ _ he
theorem id_inj : ∀ i j : Nat, (fun k : Nat => (k : Int)) i = (fun k : Nat => (k : Int)) j → i = j := fun i j h => Int.ofNat.inj h
/-- one more to the one at the root -/
theorem own_inc {w : World} {base g n c : Nat} {ws : List Int} {hs hs' : Nat → Int} {d : Arr} (h : ROwn elB w base (.slice (some ⟨g, 0, none⟩) n c) (lstB ws hs n d)) (hn : 0 < n) (h0 : hs' (d 0).toNat = hs (d 0).toNat + 1) (h1 : ∀ p, p < n → p ≠ 0 → hs' (d p).toNat = hs (d p).toNat) :
    ROwn elB (w.setCell ⟨g, 2, none⟩ (.int .i64 (hs (d 0).toNat + 1))) base (.slice (some ⟨g, 0, none⟩) n c) (lstB ws hs' n d) := by
  have hl := lstB_len ws hs n d
  have hl' := lstB_len ws hs' n d
  unfold ROwn at h ⊢
  rw [hl] at h
  rw [hl']
  have := (World.ownsRow.stored h 2 (.int .i64 (hs (d 0).toNat + 1))).1
  have e : ((lstB ws hs n d).flatMap elB.enc).set 2 (.int .i64 (hs (d 0).toNat + 1)) = (lstB ws hs' n d).flatMap elB.enc := by
    obtain ⟨m, rfl⟩ : ∃ m, n = m + 1 := ⟨n - 1, by omega⟩
    have e1 : lstB ws hs (m + 1) d = bid ws hs (d 0) :: (List.range m).map (fun p => bid ws hs (d (p + 1))) := by unfold lstB; rw [List.range_succ_eq_map]; simp [Function.comp_def]
    have e2 : lstB ws hs' (m + 1) d = bid ws hs' (d 0) :: (List.range m).map (fun p => bid ws hs' (d (p + 1))) := by unfold lstB; rw [List.range_succ_eq_map]; simp [Function.comp_def]
    have e3 : (List.range m).map (fun p => bid ws hs' (d (p + 1))) = (List.range m).map (fun p => bid ws hs (d (p + 1))) := List.map_congr_left (fun p hp => by
      unfold bid; rw [h1 (p + 1) (by have := List.mem_range.1 hp; omega) (by omega)])
    rw [e1, e2, e3]
    simp only [List.flatMap_cons]
    show (eB (bid ws hs (d 0)) ++ _).set 2 _ = eB (bid ws hs' (d 0)) ++ _
    simp [eB, bid, h0]
  rw [← e]
  exact this
/-- the heap's order behind it: all but the root -/
theorem dn_inc {ws : List Int} {hs hs' : Nat → Int} {d : Arr} {n : Nat} (h : HOrd (lessP ws hs) d n) (h1 : ∀ p, p < n → p ≠ 0 → hs' (d p).toNat = hs (d p).toNat) : DnI (lessP ws hs') d n 0 := by
  refine ⟨fun i g1 g2 g3 => ?_, fun i g1 g2 g3 g4 => by omega⟩
  have := h i g1 g2
  unfold lessP at this ⊢
  rw [h1 i g2 (by omega), h1 ((i - 1) / 2) (by omega) g3]
  exact this
set_option maxRecDepth 100000 in
set_option maxHeartbeats 4000000 in
theorem fix_st {w0 w : World} {ws : List Int} {hs : Nat → Int} {n g c : Nat} {d : Arr} (hb : Bds ws hs) (h : HSt w0 ws hs n d (.slice (some ⟨g, 0, none⟩) n c) w) (hg : w0.heap.size + 1 ≤ g) (hn : n ≤ 1000) (hi : 0 < n) (hu : DnI (lessP ws hs) d n 0) :
    Calls Try.prog 25 #[ifc w0, .int .i64 0] w (HeapQ (.tuple #[]) w0 ws hs n d (.slice (some ⟨g, 0, none⟩) n c)) := by
  have H0 := Lib.hid h
  have DC := down_st hb h hg hn 0 hi hu
  rw [show ((0 : Nat) : Int) = 0 from rfl] at DC
  have HDC := Lib.hid DC
  have UC := Lib.hid (fun (d : Arr) (w : World) h hu => up_st (d := d) (w := w) hb (w0 := w0) (g := g) (c := c) h hg hn 0 hi hu)
  have n1 := ahead_len
  have m1 := meth_len ⟨w0.heap.size, 0, none⟩ w _ h.c
  have LN := Lib.hid len_any
  clear h hu hb DC
  go_enter Try.func25, Try.ntmps25
  go_wp2_with fail
  refine (LN.out _ _ _ _).mono ?_
  rintro en w1 ⟨rfl, rfl⟩
  go_wp2_with fail
  refine HDC.out.mono ?_
  rintro en w1 ⟨b, rfl, d1, p1, p2, p3⟩
  have HP1 := Lib.hid p1; have HO1 := Lib.hid p2; have HS1 := Lib.hid p3
  have U1 := UC.out d1 w1 p3 ⟨fun i h1 h2 _ => p2 i h1 h2, fun i h1 h2 h3 h4 => by omega⟩
  rw [show ((0 : Nat) : Int) = 0 from rfl] at U1
  have HU1 := Lib.hid U1
  clear p1 p2 p3 U1 m1 HDC
  cases b
  · go_wp2_with fail
    refine HU1.out.mono ?_
    rintro en w2 ⟨rfl, d2, q1, q2, q3⟩
    have HE : RowKit.Hid (∃ d', Pm 0 n d d' ∧ HOrd (lessP ws hs) d' n ∧ HSt w0 ws hs n d' (.slice (some ⟨g, 0, none⟩) n c) w2) := Lib.hid ⟨d2, HP1.out.trans q1, q2, q3⟩
    clear q1 q2 q3
    go_wp2
    go_end0
    exact ⟨rfl, HE.out⟩
  · go_wp2
    go_end0
    exact ⟨rfl, d1, HP1.out, HO1.out, HS1.out⟩
set_option maxRecDepth 100000 in
set_option maxHeartbeats 4000000 in
theorem hpush_st {w0 w : World} {ws : List Int} {hs : Nat → Int} {n : Nat} {d : Arr} {v : Value} (hb : Bds ws hs) (h : HSt w0 ws hs n d v w) (hn : n < 1000) (xa xw xh : Int) (hx : bid ws hs (d n) = (xa, xw, xh)) (ho : HOrd (lessP ws hs) d n) :
    Calls Try.prog 24 #[ifc w0, .iface 44 (.agg #[.int .i64 xa, .int .i64 xw, .int .i64 xh])] w fun e w' => e = .returned (.tuple #[]) ∧ ∃ d' v', Pm 0 (n + 1) d d' ∧ HOrd (lessP ws hs) d' (n + 1) ∧ HSt w0 ws hs (n + 1) d' v' w' := by
  have PC := Lib.hid (push_st h (by omega) xa xw xh hx)
  have HO := Lib.hid ho; have HB := Lib.hid hb
  have n1 := ahead_push; have m1 := meth_push; have n2 := ahead_len
  have LN := Lib.hid len_any
  clear h hx ho hb
  go_enter Try.func24, Try.ntmps24
  go_wp2_with fail
  refine PC.out.mono ?_
  rintro en w1 ⟨rfl, v1, h1⟩
  obtain ⟨g, c, e, hg⟩ := h1.shape (by omega)
  subst e
  have H1 := Lib.hid h1
  have m2 := meth_len ⟨w0.heap.size, 0, none⟩ w1 _ h1.c
  have UC := Lib.hid (up_st HB.out h1 hg (by omega) n (by omega) HO.out.push)
  have e1 : ((n + 1 : Nat) : Int) - 1 = (n : Int) := by omega
  clear h1
  go_wp2_with fail
  refine (LN.out _ _ _ _).mono ?_
  rintro en w2 ⟨rfl, rfl⟩
  go_wp2_with fail
  refine UC.out.mono ?_
  rintro en w2 ⟨rfl, d2, q1, q2, q3⟩
  have HE : RowKit.Hid (∃ d' v', Pm 0 (n + 1) d d' ∧ HOrd (lessP ws hs) d' (n + 1) ∧ HSt w0 ws hs (n + 1) d' v' w2) := Lib.hid ⟨d2, _, q1, q2, q3⟩
  clear q1 q2 q3
  go_wp2
  go_end0
  exact ⟨rfl, HE.out⟩
end Sh
end Go.Proofs.Ytblbhkcnmkcdfaa
