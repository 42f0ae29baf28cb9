/- The document's search for the day of a week. -/
import Derived.Test.YtipgnmecahbddaaDateRef3
import Derived.Test.YtipgnmecahbddaaDateWalks5
namespace Go.Proofs.Ytipgnmecahbddaa
open Go.RowKit
namespace Dt

/-- the document looks for the day near the year's begin: what it finds is the day of the week -/
theorem ofWeek_found (y k d n : Int) (h1 : 1 ≤ n) (h2 : n ≤ 3652059) (hy : 1 ≤ y ∧ y ≤ 9999 ∧ 1 ≤ k ∧ k ≤ 53 ∧ 1 ≤ d ∧ d ≤ 7) (h : week n = (y, k, d)) : ofWeek y k d = (n, 0) := by
  have hw : wyear n = y := by rw [show wyear n = (week n).1 from rfl, h]
  have := ofWeek_week n h1 h2 (by omega)
  rw [h] at this
  exact this
theorem ofWeek_near (y k d n : Int) (hy : 1 ≤ y ∧ y ≤ 9999 ∧ 1 ≤ k ∧ k ≤ 53 ∧ 1 ≤ d ∧ d ≤ 7) (h : ofWeek y k d = (n, 0)) : dby y + 1 + 7 * (k - 1) - 7 ≤ n ∧ n < dby y + 1 + 7 * (k - 1) - 7 + 21 ∧ week n = (y, k, d) ∧ 1 ≤ n ∧ n ≤ 3652059 := by
  obtain ⟨a, b, c⟩ := week_ofWeek y k d n h
  have f := first_bd y
  have hw : wyear n = y := by rw [show wyear n = (week n).1 from rfl, c]
  obtain ⟨_, _, e⟩ := week_bd n a b
  rw [c, hw] at e
  have g : wd n = d := by rw [show wd n = (week n).2.2 from rfl, c]
  simp only at e
  exact ⟨by omega, by omega, c, a, b⟩
set_option maxHeartbeats 2000000 in
theorem ofWeekR_any (y k d : Int) (w : World) : Calls Try.prog 29 #[.agg #[.int .i64 y, .int .i64 k, .int .i64 d]] w (OfWeekQ y k d w) := by
  by_cases h : 1 ≤ y ∧ y ≤ 9999 ∧ 1 ≤ k ∧ k ≤ 53 ∧ 1 ≤ d ∧ d ≤ 7
  · obtain ⟨h1, h2, h3, h4, h5, h6⟩ := h
    have b1 := dby_bd y h1 (by omega)
    have s1 : IntKind.i64.wrap (k - 1) = k - 1 := IntWalk.i64_in _ (by omega)
    have s2 : IntKind.i64.wrap (7 * (k - 1)) = 7 * (k - 1) := IntWalk.i64_in _ (by omega)
    have s3 : IntKind.i64.wrap (dby y + 1 + 7 * (k - 1)) = dby y + 1 + 7 * (k - 1) := IntWalk.i64_in _ (by omega)
    have s4 : IntKind.i64.wrap (dby y + 1 + 7 * (k - 1) - 7) = dby y + 1 + 7 * (k - 1) - 7 := IntWalk.i64_in _ (by omega)
    have S1 := Lib.hid s1; have S2 := Lib.hid s2; have S3 := Lib.hid s3; have S4 := Lib.hid s4
    clear s1 s2 s3 s4
    go_enter Try.func29, Try.ntmps29
    go_wp2_with fail
    have s1 := S1.out; have s2 := S2.out; have s3 := S3.out; have s4 := S4.out
    go_region_held3 (fun w' => w'.cell? ⟨w.heap.size, 0, none⟩ = some (.int .i64 y) ∧ w'.cell? ⟨w.heap.size, 1, none⟩ = some (.int .i64 k)) (first | go_keep)
      ((go_at_call 32; refine (dayOfR_any y 1 1 _ h1 (by omega) (by decide) (by decide) (by decide) (by decide)).mono ?_; rintro en w2 ⟨rfl, hb2⟩; rw [raw_11]; obtain ⟨hc, hz⟩ := bcell hb2))
    clear s1 s2 s3 s4
    have hB : Below (w.heap.size + 1) (w.alloc (.cells #[.int .i64 y, .int .i64 k, .int .i64 d] 38)) w2 := by
      have := hb2; simp only [World.drew] at this; exact ⟨this.os, this.tape, this.output, this.size, fun q hq => this.block q (by rw [asz]; exact hq)⟩
    clear hb2
    go_wp2
    go_loopw [5] (fun t wr => ∃ j : Nat, j ≤ 21 ∧ (∀ i : Nat, i < j → ofWeek y k d ≠ (dby y + 1 + 7 * (k - 1) - 7 + i, 0)) ∧ t = .int .i64 (dby y + 1 + 7 * (k - 1) - 7 + j) ∧
        Below (w.heap.size + 1) (w.alloc (.cells #[.int .i64 y, .int .i64 k, .int .i64 d] 38)) wr) (fun t _ => (dby y + 1 + 7 * (k - 1) - 7 + 21 - intOf t).toNat)
    case atStart => exact ⟨0, by omega, fun i hi => by omega, by simp, hB⟩
    case round =>
      obtain ⟨j, hj, hno, rfl, hBr⟩ := hrel
      have hsz := hBr.size
      rw [asz] at hsz
      obtain ⟨N, hN⟩ : ∃ N, N = dby y + 1 + 7 * (k - 1) - 7 + j := ⟨_, rfl⟩
      have hbd : -400 ≤ N ∧ N ≤ 8000000 := by omega
      rw [← hN]
      by_cases hlt : j < 21
      · have hlt' : N < dby y + 1 + 7 * (k - 1) - 7 + 21 := by omega
        have hstep : ofWeek y k d ≠ (N, 0) → ∀ i : Nat, i < j + 1 → ofWeek y k d ≠ (dby y + 1 + 7 * (k - 1) - 7 + i, 0) := by
          intro hne i hi
          by_cases e : i = j
          · rw [e, ← hN]; exact hne
          · exact hno i (by omega)
        have hnext : N + 1 = dby y + 1 + 7 * (k - 1) - 7 + ((j + 1 : Nat) : Int) := by omega
        have hmeas : (dby y + 1 + 7 * (k - 1) - 7 + 21 - (N + 1)).toNat < (dby y + 1 + 7 * (k - 1) - 7 + 21 - N).toNat := by omega
        have Hno := Lib.hid hno; have Hst := Lib.hid hstep; have HN := Lib.hid hN; have Hnx := Lib.hid hnext; have Hme := Lib.hid hmeas
        clear hno hstep hN hnext hmeas
        by_cases hv : 1 ≤ N ∧ N ≤ 3652059
        · have hw : weekF N = (week N, 0) := by unfold weekF; rw [if_pos hv]
          have hx : aD (week N) = .agg #[.int .i64 (week N).1, .int .i64 (week N).2.1, .int .i64 (week N).2.2] := rfl
          by_cases heq : week N = (y, k, d)
          · have hres := ofWeek_found y k d N hv.1 hv.2 ⟨h1, h2, h3, h4, h5, h6⟩ heq
            rw [heq] at hw
            have hx2 : aD (y, k, d) = .agg #[.int .i64 y, .int .i64 k, .int .i64 d] := rfl
            have Hw := Lib.hid hw; have Hres := Lib.hid hres; have Hx := Lib.hid hx2
            clear hw hres heq hv hx hx2
            go_wp2_with fail
            refine (weekR_any N _).mono ?_
            rintro en w3 ⟨rfl, hb3⟩
            rw [Hw.out, Hx.out]
            have hB2 := hBr.trans (hb3.mono hsz)
            have k0 := boxc hB2 0
            have k1 := boxc hB2 1
            have k2 := boxc hB2 2
            have k3 := boxs hB2
            simp only [List.getElem?_toArray, List.getElem?_cons_zero, List.getElem?_cons_succ] at k0 k1 k2
            go_wp2
            go_ret2
            exact ⟨by rw [Hres.out]; rfl, (((br _).alloc (Nat.le_refl _) _).trans (hB2.mono (Nat.le_succ _))).alloc (by omega) _⟩
          · have hne : ofWeek y k d ≠ (N, 0) := by
              intro hx
              exact heq (ofWeek_near y k d N ⟨h1, h2, h3, h4, h5, h6⟩ hx).2.2.1
            have hx3 : week N = ((week N).1, (week N).2.1, (week N).2.2) := rfl
            generalize hA : (week N).1 = A at *
            generalize hB' : (week N).2.1 = B at *
            generalize hC : (week N).2.2 = C at *
            rw [hx3] at hw heq
            have Hw := Lib.hid hw; have Hne := Lib.hid hne
            clear hw hne hx hx3 hv hA hB' hC
            have hcase : (A == y) = false ∨ ((A == y) = true ∧ (B == k) = false) ∨ ((A == y) = true ∧ (B == k) = true ∧ (C == d) = false) := by
              by_cases a : A = y
              · by_cases b : B = k
                · by_cases c : C = d
                  · exact absurd (by rw [a, b, c]) heq
                  · exact .inr (.inr ⟨by simp [a], by simp [b], by simp [c]⟩)
                · exact .inr (.inl ⟨by simp [a], by simp [b]⟩)
              · exact .inl (by simp [a])
            clear heq
            rcases hcase with q1 | ⟨q0, q1⟩ | ⟨q0, q2, q1⟩
            case' inr.inl => obtain rfl : A = y := by simpa using q0
            case' inr.inr => obtain rfl : A = y := by simpa using q0
            case' inr.inr => obtain rfl : B = k := by simpa using q2
            all_goals
              go_wp2_with fail
              refine (weekR_any N _).mono ?_
              rintro en w3 ⟨rfl, hb3⟩
              rw [Hw.out]
              simp only [aD]
              have hB2 := hBr.trans (hb3.mono hsz)
              have k0 := boxc hB2 0
              have k1 := boxc hB2 1
              have k2 := boxc hB2 2
              have k3 := boxs hB2
              simp only [List.getElem?_toArray, List.getElem?_cons_zero, List.getElem?_cons_succ] at k0 k1 k2
              go_wp2
              go_roundw
              case rel => exact ⟨j + 1, by omega, Hst.out Hne.out, by rw [← Hnx.out], hB2.alloc (by omega) _⟩
              case measure => exact Hme.out
        · have hw : weekF N = ((0, 0, 0), 3) := by unfold weekF; rw [if_neg hv]
          have hne : ofWeek y k d ≠ (N, 0) := by
            intro hx
            have := (ofWeek_near y k d N ⟨h1, h2, h3, h4, h5, h6⟩ hx).2.2.2
            exact hv this
          have Hw := Lib.hid hw; have Hne := Lib.hid hne
          clear hw hne hv
          go_wp2_with fail
          refine (weekR_any N _).mono ?_
          rintro en w3 ⟨rfl, hb3⟩
          rw [Hw.out]
          simp only [aD]
          have hB2 := hBr.trans (hb3.mono hsz)
          have k0 := boxc hB2 0
          have k1 := boxc hB2 1
          have k2 := boxc hB2 2
          have k3 := boxs hB2
          simp only [List.getElem?_toArray, List.getElem?_cons_zero, List.getElem?_cons_succ] at k0 k1 k2
          go_wp2
          go_roundw
          case rel => exact ⟨j + 1, by omega, Hst.out Hne.out, by rw [← Hnx.out], hB2.alloc (by omega) _⟩
          case measure => exact Hme.out
      · have hfin : ofWeek y k d = (0, 3) := by
          rcases ofWeek_err y k d with e | e
          · exfalso
            have hx : ofWeek y k d = ((ofWeek y k d).1, 0) := Prod.ext rfl e
            have := ofWeek_near y k d _ ⟨h1, h2, h3, h4, h5, h6⟩ hx
            refine hno ((ofWeek y k d).1 - (dby y + 1 + 7 * (k - 1) - 7)).toNat (by omega) ?_
            rw [show dby y + 1 + 7 * (k - 1) - 7 + (((ofWeek y k d).1 - (dby y + 1 + 7 * (k - 1) - 7)).toNat : Int) = (ofWeek y k d).1 by omega]
            exact hx
          · exact e
        have hge : dby y + 1 + 7 * (k - 1) - 7 + 21 ≤ N := by omega
        have Hf := Lib.hid hfin
        clear hfin hno hN hlt
        go_wp2
        go_ret2
        exact ⟨by rw [Hf.out]; rfl, ((br _).alloc (Nat.le_refl _) _).trans (hBr.mono (Nat.le_succ _))⟩
  · have ho : ofWeek y k d = (0, 3) := by unfold ofWeek; rw [if_neg h]
    have Ho := Lib.hid ho; clear ho
    rcases (show y < 1 ∨ (1 ≤ y ∧ 9999 < y) ∨ (1 ≤ y ∧ y ≤ 9999 ∧ k < 1) ∨ (1 ≤ y ∧ y ≤ 9999 ∧ 1 ≤ k ∧ 53 < k) ∨ (1 ≤ y ∧ y ≤ 9999 ∧ 1 ≤ k ∧ k ≤ 53 ∧ d < 1) ∨ (1 ≤ y ∧ y ≤ 9999 ∧ 1 ≤ k ∧ k ≤ 53 ∧ 1 ≤ d ∧ 7 < d) by omega) with g | ⟨g1, g⟩ | ⟨g1, g2, g⟩ | ⟨g1, g2, g3, g⟩ | ⟨g1, g2, g3, g4, g⟩ | ⟨g1, g2, g3, g4, g5, g⟩
    all_goals
      clear h
      go_enter Try.func29, Try.ntmps29
      go_wp2
      go_ret2
      exact ⟨by rw [Ho.out]; rfl, (br _).alloc (Nat.le_refl _) _⟩
end Dt
end Go.Proofs.Ytipgnmecahbddaa
