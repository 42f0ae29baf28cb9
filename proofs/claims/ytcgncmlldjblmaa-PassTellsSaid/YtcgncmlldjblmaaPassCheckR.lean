/- Passes: the document's check. (gen_pass.py) -/
import Derived.Test.YtcgncmlldjblmaaPassCheck2
import Derived.Test.YtcgncmlldjblmaaTermRef
import Derived.Test.YtcgncmlldjblmaaSpansRef
set_option linter.unusedSimpArgs false
set_option linter.unusedVariables false
namespace Go.Proofs.Ytcgncmlldjblmaa
open Go.RowKit
namespace Pa
open Dt Sn

set_option maxRecDepth 100000 in
set_option maxHeartbeats 4000000 in
theorem checkR_0 (id born a b ser : Int) (d : Value) (l : List Sp) (w : World) (h : RdE elS w d l) (g0 : id < 1) : Calls Try.prog 15 #[aP ⟨id, born, a, b, ser⟩ d] w (Sn.IntQ 3 w) := by
  have hle := h.len_le
  have HV := Lib.hid h
  obtain ⟨x, cap, rfl, h1, h2, h3⟩ := h
  have H3 := Lib.hid h3; clear h3
  have HA := Lib.hid ((br w).alloc (Nat.le_refl _) (.cells #[.int .i64 id, .int .i64 born, .int .i64 a, .int .i64 b, .int .i64 ser, .slice x l.length cap] 24))
  have HX := Lib.hid (Box.new w 24 [.int .i64 id, .int .i64 born, .int .i64 a, .int .i64 b, .int .i64 ser, .slice x l.length cap])
  clear HV H3
  go_enter Try.func15, Try.ntmps15
  go_wp2
  go_ret
  exact ⟨rfl, by first | exact HA.out | exact bn HA.out _⟩

set_option maxRecDepth 100000 in
set_option maxHeartbeats 4000000 in
theorem checkR_1 (id born a b ser : Int) (d : Value) (l : List Sp) (w : World) (h : RdE elS w d l) (g0 : 1 ≤ id) (g1 : 999999 < id) : Calls Try.prog 15 #[aP ⟨id, born, a, b, ser⟩ d] w (Sn.IntQ 3 w) := by
  have hle := h.len_le
  have HV := Lib.hid h
  obtain ⟨x, cap, rfl, h1, h2, h3⟩ := h
  have H3 := Lib.hid h3; clear h3
  have HA := Lib.hid ((br w).alloc (Nat.le_refl _) (.cells #[.int .i64 id, .int .i64 born, .int .i64 a, .int .i64 b, .int .i64 ser, .slice x l.length cap] 24))
  have HX := Lib.hid (Box.new w 24 [.int .i64 id, .int .i64 born, .int .i64 a, .int .i64 b, .int .i64 ser, .slice x l.length cap])
  clear HV H3
  go_enter Try.func15, Try.ntmps15
  go_wp2
  go_ret
  exact ⟨rfl, by first | exact HA.out | exact bn HA.out _⟩

set_option maxRecDepth 100000 in
set_option maxHeartbeats 4000000 in
theorem checkR_2 (id born a b ser : Int) (d : Value) (l : List Sp) (w : World) (h : RdE elS w d l) (g0 : 1 ≤ id) (g1 : id ≤ 999999) (g2 : isD born = false) : Calls Try.prog 15 #[aP ⟨id, born, a, b, ser⟩ d] w (Sn.IntQ 3 w) := by
  have hle := h.len_le
  have HV := Lib.hid h
  obtain ⟨x, cap, rfl, h1, h2, h3⟩ := h
  have H3 := Lib.hid h3; clear h3
  have HA := Lib.hid ((br w).alloc (Nat.le_refl _) (.cells #[.int .i64 id, .int .i64 born, .int .i64 a, .int .i64 b, .int .i64 ser, .slice x l.length cap] 24))
  have HX := Lib.hid (Box.new w 24 [.int .i64 id, .int .i64 born, .int .i64 a, .int .i64 b, .int .i64 ser, .slice x l.length cap])
  have cHI := g2
  have HI := Lib.hid (fun w => noDay_any born w)
  rw [cHI] at HI
  clear g2 cHI
  clear HV H3
  go_enter Try.func15, Try.ntmps15
  go_wp2_with (first | (go_at_call 32; (with_reducible refine (HI.out _).mono ?_); rintro en w2 ⟨rfl, rfl⟩))
  go_ret
  exact ⟨rfl, by first | exact HA.out | exact bn HA.out _⟩

set_option maxRecDepth 100000 in
set_option maxHeartbeats 4000000 in
theorem checkR_3 (id born a b ser : Int) (d : Value) (l : List Sp) (w : World) (h : RdE elS w d l) (g0 : 1 ≤ id) (g1 : id ≤ 999999) (g2 : isD born = true) (g3 : a < 0) : Calls Try.prog 15 #[aP ⟨id, born, a, b, ser⟩ d] w (Sn.IntQ 3 w) := by
  have hle := h.len_le
  have HV := Lib.hid h
  obtain ⟨x, cap, rfl, h1, h2, h3⟩ := h
  have H3 := Lib.hid h3; clear h3
  have HA := Lib.hid ((br w).alloc (Nat.le_refl _) (.cells #[.int .i64 id, .int .i64 born, .int .i64 a, .int .i64 b, .int .i64 ser, .slice x l.length cap] 24))
  have HX := Lib.hid (Box.new w 24 [.int .i64 id, .int .i64 born, .int .i64 a, .int .i64 b, .int .i64 ser, .slice x l.length cap])
  have cHI := g2
  have HI := Lib.hid (fun w => noDay_any born w)
  rw [cHI] at HI
  clear g2 cHI
  clear HV H3
  go_enter Try.func15, Try.ntmps15
  go_wp2_with (first | (go_at_call 32; (with_reducible refine (HI.out _).mono ?_); rintro en w2 ⟨rfl, rfl⟩))
  go_ret
  exact ⟨rfl, by first | exact HA.out | exact bn HA.out _⟩

set_option maxRecDepth 100000 in
set_option maxHeartbeats 4000000 in
theorem checkR_4 (id born a b ser : Int) (d : Value) (l : List Sp) (w : World) (h : RdE elS w d l) (g0 : 1 ≤ id) (g1 : id ≤ 999999) (g2 : isD born = true) (g3 : 0 ≤ a) (g4 : b < a) : Calls Try.prog 15 #[aP ⟨id, born, a, b, ser⟩ d] w (Sn.IntQ 3 w) := by
  have hle := h.len_le
  have HV := Lib.hid h
  obtain ⟨x, cap, rfl, h1, h2, h3⟩ := h
  have H3 := Lib.hid h3; clear h3
  have HA := Lib.hid ((br w).alloc (Nat.le_refl _) (.cells #[.int .i64 id, .int .i64 born, .int .i64 a, .int .i64 b, .int .i64 ser, .slice x l.length cap] 24))
  have HX := Lib.hid (Box.new w 24 [.int .i64 id, .int .i64 born, .int .i64 a, .int .i64 b, .int .i64 ser, .slice x l.length cap])
  have cHI := g2
  have HI := Lib.hid (fun w => noDay_any born w)
  rw [cHI] at HI
  clear g2 cHI
  clear HV H3
  go_enter Try.func15, Try.ntmps15
  go_wp2_with (first | (go_at_call 32; (with_reducible refine (HI.out _).mono ?_); rintro en w2 ⟨rfl, rfl⟩))
  go_ret
  exact ⟨rfl, by first | exact HA.out | exact bn HA.out _⟩

set_option maxRecDepth 100000 in
set_option maxHeartbeats 4000000 in
theorem checkR_5 (id born a b ser : Int) (d : Value) (l : List Sp) (w : World) (h : RdE elS w d l) (g0 : 1 ≤ id) (g1 : id ≤ 999999) (g2 : isD born = true) (g3 : 0 ≤ a) (g4 : a ≤ b) (g5 : 5 < b) : Calls Try.prog 15 #[aP ⟨id, born, a, b, ser⟩ d] w (Sn.IntQ 3 w) := by
  have hle := h.len_le
  have HV := Lib.hid h
  obtain ⟨x, cap, rfl, h1, h2, h3⟩ := h
  have H3 := Lib.hid h3; clear h3
  have HA := Lib.hid ((br w).alloc (Nat.le_refl _) (.cells #[.int .i64 id, .int .i64 born, .int .i64 a, .int .i64 b, .int .i64 ser, .slice x l.length cap] 24))
  have HX := Lib.hid (Box.new w 24 [.int .i64 id, .int .i64 born, .int .i64 a, .int .i64 b, .int .i64 ser, .slice x l.length cap])
  have cHI := g2
  have HI := Lib.hid (fun w => noDay_any born w)
  rw [cHI] at HI
  clear g2 cHI
  clear HV H3
  go_enter Try.func15, Try.ntmps15
  go_wp2_with (first | (go_at_call 32; (with_reducible refine (HI.out _).mono ?_); rintro en w2 ⟨rfl, rfl⟩))
  go_ret
  exact ⟨rfl, by first | exact HA.out | exact bn HA.out _⟩

set_option maxRecDepth 100000 in
set_option maxHeartbeats 4000000 in
theorem checkR_6 (id born a b ser : Int) (d : Value) (l : List Sp) (w : World) (h : RdE elS w d l) (g0 : 1 ≤ id) (g1 : id ≤ 999999) (g2 : isD born = true) (g3 : 0 ≤ a) (g4 : a ≤ b) (g5 : b ≤ 5) (g6 : ser < 1) : Calls Try.prog 15 #[aP ⟨id, born, a, b, ser⟩ d] w (Sn.IntQ 3 w) := by
  have hle := h.len_le
  have HV := Lib.hid h
  obtain ⟨x, cap, rfl, h1, h2, h3⟩ := h
  have H3 := Lib.hid h3; clear h3
  have HA := Lib.hid ((br w).alloc (Nat.le_refl _) (.cells #[.int .i64 id, .int .i64 born, .int .i64 a, .int .i64 b, .int .i64 ser, .slice x l.length cap] 24))
  have HX := Lib.hid (Box.new w 24 [.int .i64 id, .int .i64 born, .int .i64 a, .int .i64 b, .int .i64 ser, .slice x l.length cap])
  have cHI := g2
  have HI := Lib.hid (fun w => noDay_any born w)
  rw [cHI] at HI
  clear g2 cHI
  clear HV H3
  go_enter Try.func15, Try.ntmps15
  go_wp2_with (first | (go_at_call 32; (with_reducible refine (HI.out _).mono ?_); rintro en w2 ⟨rfl, rfl⟩))
  go_ret
  exact ⟨rfl, by first | exact HA.out | exact bn HA.out _⟩

set_option maxRecDepth 100000 in
set_option maxHeartbeats 4000000 in
theorem checkR_7 (id born a b ser : Int) (d : Value) (l : List Sp) (w : World) (h : RdE elS w d l) (g0 : 1 ≤ id) (g1 : id ≤ 999999) (g2 : isD born = true) (g3 : 0 ≤ a) (g4 : a ≤ b) (g5 : b ≤ 5) (g6 : 1 ≤ ser) (g7 : 999 < ser) : Calls Try.prog 15 #[aP ⟨id, born, a, b, ser⟩ d] w (Sn.IntQ 3 w) := by
  have hle := h.len_le
  have HV := Lib.hid h
  obtain ⟨x, cap, rfl, h1, h2, h3⟩ := h
  have H3 := Lib.hid h3; clear h3
  have HA := Lib.hid ((br w).alloc (Nat.le_refl _) (.cells #[.int .i64 id, .int .i64 born, .int .i64 a, .int .i64 b, .int .i64 ser, .slice x l.length cap] 24))
  have HX := Lib.hid (Box.new w 24 [.int .i64 id, .int .i64 born, .int .i64 a, .int .i64 b, .int .i64 ser, .slice x l.length cap])
  have cHI := g2
  have HI := Lib.hid (fun w => noDay_any born w)
  rw [cHI] at HI
  clear g2 cHI
  clear HV H3
  go_enter Try.func15, Try.ntmps15
  go_wp2_with (first | (go_at_call 32; (with_reducible refine (HI.out _).mono ?_); rintro en w2 ⟨rfl, rfl⟩))
  go_ret
  exact ⟨rfl, by first | exact HA.out | exact bn HA.out _⟩

theorem inS3_step (l : List Sp) (k : Nat) (h : k < l.length) : inS3 (l.drop k) ↔ (1 ≤ l[k].1 ∧ l[k].2 ≤ 3652059) ∧ inS3 (l.drop (k + 1)) := by
  rw [List.drop_eq_getElem_cons h]
  unfold inS3
  simp only [List.mem_cons, forall_eq_or_imp]
set_option maxRecDepth 100000 in
set_option maxHeartbeats 4000000 in
theorem checkR_8 (id born a b ser : Int) (d : Value) (l : List Sp) (w : World) (h : RdE elS w d l) (g0 : 1 ≤ id) (g1 : id ≤ 999999) (g2 : isD born = true) (g3 : 0 ≤ a) (g4 : a ≤ b) (g5 : b ≤ 5) (g6 : 1 ≤ ser) (g7 : ser ≤ 999) : Calls Try.prog 15 #[aP ⟨id, born, a, b, ser⟩ d] w (Sn.IntQ (passE ⟨id, born, a, b, ser⟩ l) w) := by
  have hok : ok5 ⟨id, born, a, b, ser⟩ := ⟨g0, g1, g2, by simp only [zn, decide_eq_true (show 0 ≤ a by omega), decide_eq_true (show a < 6 by omega)]; rfl, by simp only [zn, decide_eq_true (show 0 ≤ b by omega), decide_eq_true (show b < 6 by omega)]; rfl, g4, g6, g7⟩
  have hq := Sn.checkR_any d l
  have hle := h.len_le
  have HV := Lib.hid h
  obtain ⟨x, cap, rfl, h1, h2, h3⟩ := h
  have H3 := Lib.hid h3; clear h3
  have HA := Lib.hid ((br w).alloc (Nat.le_refl _) (.cells #[.int .i64 id, .int .i64 born, .int .i64 a, .int .i64 b, .int .i64 ser, .slice x l.length cap] 24))
  have HX := Lib.hid (Box.new w 24 [.int .i64 id, .int .i64 born, .int .i64 a, .int .i64 b, .int .i64 ser, .slice x l.length cap])
  have cHI := g2
  have HI := Lib.hid (fun w => noDay_any born w)
  rw [cHI] at HI
  clear g2 cHI
  have CK := Lib.hid (fun w' (hb : Below w.heap.size w w') => hq w' (HV.out.below hb))
  clear hq
  by_cases c : chkS l = 0
  · rw [c] at CK
    have HF0 := Lib.hid (passE_last hok c)
    clear c hok
    go_enter Try.func15, Try.ntmps15
    go_wp2_with (first | (go_at_call 32; (with_reducible refine (HI.out _).mono ?_); rintro en w2 ⟨rfl, rfl⟩))
    refine (CK.out _ (by first | exact HA.out | exact bn HA.out _)).mono ?_
    rintro en w5 ⟨rfl, b5⟩
    have HB5 := Lib.hid (bt HA.out b5)
    have HX5 := Lib.hid (HX.out.next b5)
    clear b5 g0 g1 g3 g4 g5 g6 g7 HA HX CK HI HV
    go_wp2
    go_loopw [4] (fun i wr => ∃ k : Nat, k ≤ l.length ∧ i = .int .i64 k ∧ (inS3 l ↔ inS3 (l.drop k)) ∧ Below w.heap.size w wr ∧ Box wr w.heap.size 24 [.int .i64 id, .int .i64 born, .int .i64 a, .int .i64 b, .int .i64 ser, .slice x l.length cap]) (fun i _ => l.length - (intOf i).toNat)
    case atStart => exact ⟨0, Nat.zero_le _, rfl, Iff.rfl, HB5.out, HX5.out⟩
    case round =>
      obtain ⟨k, hk, rfl, hch, hbw, hx⟩ := hrel
      have HBW := Lib.hid hbw
      have k5 := hx.cell 5
      simp only [List.getElem?_cons_zero, List.getElem?_cons_succ] at k5
      have HXW := Lib.hid hx
      have hF := HF0.out
      clear hx HF0
      by_cases hlt : k < l.length
      · obtain ⟨g, off, rfl, hbl, hc⟩ := H3.out (by omega)
        obtain ⟨q0, q1⟩ := eS_at hc k hlt
        have d0 := (hbw.cell (p := ⟨g, off + k * 2, none⟩) hbl).trans q0
        have d1 := (hbw.cell (p := ⟨g, off + k * 2 + 1, none⟩) hbl).trans q1
        have i1 : (k : Int) < (l.length : Int) := by omega
        have i0 : (0 : Int) ≤ (k : Int) := by omega
        rw [inS3_step l k hlt] at hch
        clear hc q0 q1 hbw H3
        generalize l[k].1 = P at *; generalize l[k].2 = Q at *
        by_cases p1 : P < 1
        · rw [if_neg (fun y => by have := (hch.1 y).1; omega)] at hF
          have HF := Lib.hid hF
          clear hF hch
          go_wp2
          go_ret
          exact ⟨by rw [HF.out]; rfl, HBW.out⟩
        · by_cases p2 : 3652059 < Q
          · rw [if_neg (fun y => by have := (hch.1 y).1; omega)] at hF
            have HF := Lib.hid hF
            clear hF hch
            go_wp2
            go_ret
            exact ⟨by rw [HF.out]; rfl, HBW.out⟩
          · have HCH := Lib.hid (show inS3 l ↔ inS3 (l.drop (k + 1)) from ⟨fun y => (hch.1 y).2, fun y => hch.2 ⟨⟨by omega, by omega⟩, y⟩⟩)
            clear hF hch
            go_wp2
            go_roundw
            case rel => exact ⟨k + 1, by omega, by go_num, HCH.out, HBW.out, HXW.out⟩
            case measure => simp [intOf]; omega
      · have i1 : ¬ (k : Int) < (l.length : Int) := by omega
        rw [if_pos (hch.2 (by rw [List.drop_eq_nil_of_le (by omega)]; intro s hs; cases hs))] at hF
        have HF := Lib.hid hF
        clear H3 hF hch
        go_wp2
        go_ret
        exact ⟨by rw [HF.out]; rfl, HBW.out⟩
  · rw [passE_spans hok c]
    have hz : (chkS l == 0) = false := by simp [c]
    generalize chkS l = E at *
    clear H3 HV hok
    go_enter Try.func15, Try.ntmps15
    go_wp2_with (first | (go_at_call 32; (with_reducible refine (HI.out _).mono ?_); rintro en w2 ⟨rfl, rfl⟩))
    refine (CK.out _ (by first | exact HA.out | exact bn HA.out _)).mono ?_
    rintro en w5 ⟨rfl, b5⟩
    have HB5 := Lib.hid (bt HA.out b5)
    go_wp2
    go_ret
    exact ⟨rfl, HB5.out⟩
theorem checkR_any (p : Ps) (d : Value) (l : List Sp) (w : World) (h : RdE elS w d l) : Calls Try.prog 15 #[aP p d] w (Sn.IntQ (passE p l) w) := by
  obtain ⟨id, born, a, b, ser⟩ := p
  have bad : ¬ ok5 ⟨id, born, a, b, ser⟩ → passE ⟨id, born, a, b, ser⟩ l = 3 := passE_bad
  have hz : ok5 ⟨id, born, a, b, ser⟩ → 0 ≤ a ∧ b ≤ 5 := fun y => by
    have h3 := y.2.2.2.1; have h4 := y.2.2.2.2.1
    unfold zn at h3 h4
    simp at h3 h4
    omega
  by_cases g0 : 1 ≤ id
  case neg => rw [bad (fun x => by have := x.1; simp only at this; omega)]; exact checkR_0 id born a b ser d l w h (by omega)
  by_cases g1 : id ≤ 999999
  case neg => rw [bad (fun x => by have := x.2.1; simp only at this; omega)]; exact checkR_1 id born a b ser d l w h g0 (by omega)
  cases g2 : isD born with
  | false => rw [bad (fun x => by have := x.2.2.1; simp only at this; rw [g2] at this; cases this)]; exact checkR_2 id born a b ser d l w h g0 g1 g2
  | true =>
  by_cases g3 : 0 ≤ a
  case neg => rw [bad (fun x => by have := hz x; omega)]; exact checkR_3 id born a b ser d l w h g0 g1 g2 (by omega)
  by_cases g4 : a ≤ b
  case neg => rw [bad (fun x => by have := x.2.2.2.2.2.1; simp only at this; omega)]; exact checkR_4 id born a b ser d l w h g0 g1 g2 g3 (by omega)
  by_cases g5 : b ≤ 5
  case neg => rw [bad (fun x => by have := hz x; omega)]; exact checkR_5 id born a b ser d l w h g0 g1 g2 g3 g4 (by omega)
  by_cases g6 : 1 ≤ ser
  case neg => rw [bad (fun x => by have := x.2.2.2.2.2.2.1; simp only at this; omega)]; exact checkR_6 id born a b ser d l w h g0 g1 g2 g3 g4 g5 (by omega)
  by_cases g7 : ser ≤ 999
  case neg => rw [bad (fun x => by have := x.2.2.2.2.2.2.2; simp only at this; omega)]; exact checkR_7 id born a b ser d l w h g0 g1 g2 g3 g4 g5 g6 (by omega)
  exact checkR_8 id born a b ser d l w h g0 g1 g2 g3 g4 g5 g6 g7
end Pa
end Go.Proofs.Ytcgncmlldjblmaa
