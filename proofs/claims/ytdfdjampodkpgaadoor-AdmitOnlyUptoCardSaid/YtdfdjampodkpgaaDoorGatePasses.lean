/- Gate: are passes right? -/
import Derived.Test.YtdfdjampodkpgaaDoorGateAt
import Derived.Test.YtdfdjampodkpgaaDoorJEl
set_option linter.unusedSimpArgs false
set_option linter.unusedVariables false
namespace Go.Proofs.YtdfdjampodkpgaaDoor
open Go.RowKit
namespace Gt
open Sn Pa
abbrev Pl := Ps × List Sp
def hasI (id : Int) (l : List Pl) : Bool := l.any (fun x => decide (x.1.id = id))
theorem hasI_iff (id : Int) (l : List Pl) : hasI id l = true ↔ ∃ x ∈ l, x.1.id = id := by unfold hasI; simp
def pasG (done : List Pl) : List Pl → Int
  | [] => 0
  | x :: r => if passE x.1 x.2 ≠ 0 then passE x.1 x.2 else if hasI x.1.id done = true then 6 else pasG (done ++ [x]) r
def pasE (l : List Pl) : Int := pasG [] l
theorem hasI_pl (id : Int) (xs : List Px) : hasI id (pls xs) = decide (0 ≤ atX xs id) := by
  unfold atX
  rw [Bool.eq_iff_iff, decide_eq_true_eq]
  have h := findI_neg (isX id) xs
  constructor
  · intro h1
    rcases Int.lt_or_le (findI (isX id) xs) 0 with h2 | h2
    · have h3 := h.1 h2
      obtain ⟨x, hx, he⟩ := (hasI_iff _ _).1 h1
      obtain ⟨p, hp, rfl⟩ := List.mem_map.1 hx
      have := h3 p hp
      unfold isX at this
      simp at this
      exact absurd he this
    · exact h2
  · intro h1
    refine Classical.byContradiction fun hc => ?_
    have := h.2 (fun p hp => by
      unfold isX
      refine decide_eq_false fun he => hc ((hasI_iff _ _).2 ⟨p.pl, List.mem_map.2 ⟨p, hp, rfl⟩, he⟩))
    omega
abbrev pxC (x : Px) : Array Value := #[.int .i64 x.p.id, .int .i64 x.p.born, .int .i64 x.p.a, .int .i64 x.p.b, .int .i64 x.p.ser, x.v]
set_option maxRecDepth 100000 in
set_option maxHeartbeats 4000000 in
theorem passes_any (v : Value) (xs : List Px) (w : World) (h : RdX w v xs) : Calls Tryd.prog 39 #[v] w (IntQ (pasE (pls xs)) w) := by
  obtain ⟨hr, hls⟩ := h
  have HR := Lib.hid hr
  have hle := hr.len_le
  obtain ⟨a, cap, rfl, h1, h2, h3⟩ := hr
  obtain ⟨F, hF⟩ : ∃ F, pasE (pls xs) = F := ⟨_, rfl⟩
  rw [hF]
  unfold pasE at hF
  have HF := Lib.hid hF; clear hF
  have H3 := Lib.hid h3; clear h3
  have HLS := Lib.hid hls; clear hls
  go_enter Tryd.func39, Tryd.ntmps39
  go_wp2
  go_loopw [8] (fun i wr => ∃ k : Nat, k ≤ xs.length ∧ i = .int .i64 k ∧ pasG (pls (xs.take k)) (pls (xs.drop k)) = F ∧ Below w.heap.size w wr) (fun i _ => xs.length - (intOf i).toNat)
  case atStart => exact ⟨0, Nat.zero_le _, rfl, HF.out, br _⟩
  case round =>
    obtain ⟨k, hk, rfl, hch, hbw⟩ := hrel
    by_cases hlt : k < xs.length
    · obtain ⟨g, off, rfl, hbl, hc⟩ := H3.out (by omega)
      obtain ⟨q0, q1, q2, q3, q4, q5⟩ := eX_at hc k hlt
      have d0 := (hbw.cell (p := ⟨g, off + k * 6, none⟩) hbl).trans q0
      have d1 := (hbw.cell (p := ⟨g, off + k * 6 + 1, none⟩) hbl).trans q1
      have d2 := (hbw.cell (p := ⟨g, off + k * 6 + 2, none⟩) hbl).trans q2
      have d3 := (hbw.cell (p := ⟨g, off + k * 6 + 3, none⟩) hbl).trans q3
      have d4 := (hbw.cell (p := ⟨g, off + k * 6 + 4, none⟩) hbl).trans q4
      have d5 := (hbw.cell (p := ⟨g, off + k * 6 + 5, none⟩) hbl).trans q5
      have i1 : (k : Int) < (xs.length : Int) := by omega
      have i0 : (0 : Int) ≤ (k : Int) := by omega
      have i2 : (k : Int) ≤ (cap : Int) := by omega
      have hdrop : pls (xs.drop k) = xs[k].pl :: pls (xs.drop (k + 1)) := by rw [List.drop_eq_getElem_cons hlt]; rfl
      have htake : pls (xs.take (k + 1)) = pls (xs.take k) ++ [xs[k].pl] := by rw [List.take_succ_eq_append_getElem hlt]; exact List.map_append
      rw [hdrop] at hch
      unfold pasG at hch
      rw [← htake] at hch
      have hP := rd_pre HR.out k (by omega)
      have HP := Lib.hid (hP.below hbw)
      have CP := Lib.hid (fun w' (hb : Below w.heap.size w w') => Pa.check_any xs[k].p xs[k].v xs[k].l w' ((HLS.out _ (List.getElem_mem hlt)).below hb))
      have HBW := Lib.hid hbw
      have HHI := Lib.hid (hasI_pl xs[k].p.id (xs.take k))
      clear hc q0 q1 q2 q3 q4 q5 hdrop htake hP H3 HLS HR HF
      have k0 : (wr.alloc (.cells (pxC xs[k]) 25)).cell? ⟨wr.heap.size, 0, none⟩ = some (.int .i64 xs[k].p.id) := by rw [World.cell?_alloc_mark]; rfl
      by_cases c1 : passE xs[k].p xs[k].l ≠ 0
      · rw [if_pos c1] at hch
        have HCH := Lib.hid hch
        have hn : (passE xs[k].p xs[k].l != 0) = true := by simpa using c1
        clear hch hbw c1 k0 HHI HP
        unfold aP Px.v at CP
        unfold Px.v at d5
        generalize passE xs[k].p xs[k].l = ec at *
        generalize xs[k].p.id = t0 at *
        generalize xs[k].p.born = t1 at *
        generalize xs[k].p.a = t2 at *
        generalize xs[k].p.b = t3 at *
        generalize xs[k].p.ser = t4 at *
        generalize xs[k].a = pa at *; generalize xs[k].l.length = pl at *; generalize xs[k].cap = pc at *
        go_wp2_with fail
        refine (CP.out _ (HBW.out.alloc HBW.out.size _)).mono ?_
        rintro en w3 ⟨rfl, hb3⟩
        go_wp2
        go_ret
        exact ⟨by rw [← HCH.out]; rfl, (HBW.out.alloc HBW.out.size _).trans (hb3.mono (by have := HBW.out.size; simp; omega))⟩
      · rw [if_neg c1] at hch
        have c2 : passE xs[k].p xs[k].l = 0 := by simpa using c1
        rw [c2] at CP
        have CA := Lib.hid (fun v w' h => at_any xs[k].p.id v (xs.take k) w' h)
        have hpg : xs[k].pl.1.id = xs[k].p.id := rfl
        rw [hpg, HHI.out] at hch
        have hge : decide (atX (xs.take k) xs[k].p.id ≥ 0) = decide (0 ≤ atX (xs.take k) xs[k].p.id) := rfl
        have hkl : (xs.take k).length = k := by simp; omega
        have HKL := Lib.hid hkl
        clear hbw c1 c2 hpg HHI hkl
        unfold aP Px.v at CP
        unfold pxC Px.v at k0
        unfold Px.v at d5
        generalize atX (xs.take k) xs[k].p.id = fi at *
        generalize xs[k].p.id = t0 at *
        generalize xs[k].p.born = t1 at *
        generalize xs[k].p.a = t2 at *
        generalize xs[k].p.b = t3 at *
        generalize xs[k].p.ser = t4 at *
        generalize xs[k].a = pa at *; generalize xs[k].l.length = pl at *; generalize xs[k].cap = pc at *
        have HK0 := Lib.hid k0
        clear k0
        by_cases c3 : 0 ≤ fi
        · rw [decide_eq_true c3, if_pos rfl] at hch
          have HCH := Lib.hid hch
          clear hch
          go_wp2_with fail
          refine (CP.out _ (HBW.out.alloc HBW.out.size _)).mono ?_
          rintro en w3 ⟨rfl, hb3⟩
          have HB3 := Lib.hid hb3
          have e0 := kp hb3 HK0.out
          have HW3 : RowKit.Hid (Below w.heap.size w w3) := Lib.hid ((HBW.out.alloc HBW.out.size _).trans (hb3.mono (by have := HBW.out.size; simp; omega)))
          have HP3 := Lib.hid (HP.out.below (((br wr).alloc (Nat.le_refl _) (.cells #[.int .i64 t0, .int .i64 t1, .int .i64 t2, .int .i64 t3, .int .i64 t4, .slice pa pl pc] 25)).trans (hb3.mono (by simp))))
          have hge : (fi ≥ 0) = (0 ≤ fi) := rfl
          clear hb3
          go_wp2_with fail
          go_region_held3 (fun w' => w'.cell? ⟨wr.heap.size, 0, none⟩ = some (.int .i64 t0))
            (first | exact kp b2 e0 | go_keep | fail)
            (first | (go_at_call 71; (with_reducible refine (CA.out _ _ (by first | exact HP3.out | exact rdE_dr HP3.out)).mono ?_); rintro en w4 ⟨rfl, b2⟩))
          go_wp2
          go_ret
          exact ⟨by rw [← HCH.out]; rfl, by first | exact bt HW3.out b2 | exact bd HW3.out b2⟩
        · rw [decide_eq_false c3, if_neg (by simp)] at hch
          have HCH := Lib.hid hch
          clear hch
          go_wp2_with fail
          refine (CP.out _ (HBW.out.alloc HBW.out.size _)).mono ?_
          rintro en w3 ⟨rfl, hb3⟩
          have HB3 := Lib.hid hb3
          have e0 := kp hb3 HK0.out
          have HW3 : RowKit.Hid (Below w.heap.size w w3) := Lib.hid ((HBW.out.alloc HBW.out.size _).trans (hb3.mono (by have := HBW.out.size; simp; omega)))
          have HP3 := Lib.hid (HP.out.below (((br wr).alloc (Nat.le_refl _) (.cells #[.int .i64 t0, .int .i64 t1, .int .i64 t2, .int .i64 t3, .int .i64 t4, .slice pa pl pc] 25)).trans (hb3.mono (by simp))))
          have hge : (fi ≥ 0) = (0 ≤ fi) := rfl
          clear hb3
          go_wp2_with fail
          go_region_held3 (fun w' => w'.cell? ⟨wr.heap.size, 0, none⟩ = some (.int .i64 t0))
            (first | exact kp b2 e0 | go_keep | fail)
            (first | (go_at_call 71; (with_reducible refine (CA.out _ _ (by first | exact HP3.out | exact rdE_dr HP3.out)).mono ?_); rintro en w4 ⟨rfl, b2⟩))
          go_wp2
          go_roundw
          case rel => exact ⟨k + 1, by omega, by go_num, HCH.out, by first | exact bt HW3.out b2 | exact bd HW3.out b2⟩
          case measure => simp [intOf]; omega
    · have hch2 : 0 = F := by rw [← hch, List.drop_eq_nil_of_le (by omega)]; rfl
      have HCH := Lib.hid hch2
      clear hch hch2 H3 HF
      go_wp2
      go_ret
      exact ⟨by rw [← HCH.out]; rfl, hbw⟩
end Gt
end Go.Proofs.YtdfdjampodkpgaaDoor
