/- Passes: when is one right? (gen_pass.py) -/
import Derived.Test.YtcgncmlldjblmaaDateWalks3
import Derived.Test.YtcgncmlldjblmaaSpansCheck
import Derived.Test.YtcgncmlldjblmaaBox
import Derived.BigQuiet
import Derived.BigRegion
set_option linter.unusedSimpArgs false
set_option linter.unusedVariables false
namespace Go.Proofs.Ytcgncmlldjblmaa
open Go.RowKit
namespace Pa
open Dt Sn
structure Ps where
  id : Int
  born : Int
  a : Int
  b : Int
  ser : Int
abbrev aP (p : Ps) (d : Value) : Value := .agg #[.int .i64 p.id, .int .i64 p.born, .int .i64 p.a, .int .i64 p.b, .int .i64 p.ser, d]
def zn (z : Int) : Bool := decide (0 ≤ z) && decide (z < 6)
def ok5 (p : Ps) : Prop := 1 ≤ p.id ∧ p.id ≤ 999999 ∧ isD p.born = true ∧ zn p.a = true ∧ zn p.b = true ∧ p.a ≤ p.b ∧ 1 ≤ p.ser ∧ p.ser ≤ 999
instance (p : Ps) : Decidable (ok5 p) := by unfold ok5; infer_instance
def inS3 (l : List Sp) : Prop := ∀ s ∈ l, 1 ≤ s.1 ∧ s.2 ≤ 3652059
instance (l : List Sp) : Decidable (inS3 l) := by unfold inS3; infer_instance
def passE (p : Ps) (l : List Sp) : Int := if ok5 p then (if chkS l = 0 then (if inS3 l then 0 else 3) else chkS l) else 3
theorem canon_first : ∀ {l : List Sp}, Canon l → ∀ (h : 0 < l.length), ∀ s ∈ l, l[0].1 ≤ s.1
  | s :: l, hc, _, t, ht => by
    rcases List.mem_cons.1 ht with rfl | ht
    · exact Int.le_refl _
    · have h1 := canon_from hc t ht
      have h2 := canon_head hc
      show s.1 ≤ t.1
      omega
theorem canon_last : ∀ {l : List Sp}, Canon l → ∀ (h : l.length - 1 < l.length), ∀ s ∈ l, s.2 ≤ l[l.length - 1].2
  | [s], hc, h, t, ht => by
    rcases List.mem_cons.1 ht with rfl | ht
    · exact Int.le_refl _
    · cases ht
  | s :: u :: l, hc, h, t, ht => by
    have hi := canon_last (canon_tail hc) (l := u :: l) (by simp)
    have hl : (s :: u :: l)[(s :: u :: l).length - 1] = (u :: l)[(u :: l).length - 1]'(by simp) := by simp
    rw [hl]
    rcases List.mem_cons.1 ht with rfl | ht
    · have h1 := canon_from hc u (by simp)
      have h2 := canon_head (canon_tail hc)
      have h3 := hi u (by simp)
      omega
    · exact hi t ht
theorem inS3_ends {l : List Sp} (hc : Canon l) (h : 0 < l.length) : inS3 l ↔ 1 ≤ l[0].1 ∧ (l[l.length - 1]'(by omega)).2 ≤ 3652059 := by
  constructor
  · intro hi
    exact ⟨(hi _ (List.getElem_mem h)).1, (hi _ (List.getElem_mem (by omega))).2⟩
  · rintro ⟨h1, h2⟩ s hs
    have g1 := canon_first hc h s hs
    have g2 := canon_last hc (by omega) s hs
    exact ⟨by omega, by omega⟩
theorem passE_bad {p : Ps} {l : List Sp} (h : ¬ ok5 p) : passE p l = 3 := by unfold passE; rw [if_neg h]
theorem passE_spans {p : Ps} {l : List Sp} (h : ok5 p) (h' : chkS l ≠ 0) : passE p l = chkS l := by unfold passE; rw [if_pos h, if_neg h']
theorem passE_last {p : Ps} {l : List Sp} (h : ok5 p) (h' : chkS l = 0) : passE p l = if inS3 l then 0 else 3 := by unfold passE; rw [if_pos h, if_pos h']
theorem passE_nil {p : Ps} (h : ok5 p) : passE p [] = 0 := by rw [passE_last h rfl, if_pos]; intro s hs; cases hs
theorem passE_ok {p : Ps} {l : List Sp} : passE p l = 0 ↔ ok5 p ∧ chkS l = 0 ∧ inS3 l := by
  by_cases h : ok5 p
  · by_cases h' : chkS l = 0
    · rw [passE_last h h']
      by_cases h2 : inS3 l
      · rw [if_pos h2]; exact ⟨fun _ => ⟨h, h', h2⟩, fun _ => rfl⟩
      · rw [if_neg h2]; exact ⟨fun x => absurd x (by decide), fun x => absurd x.2.2 h2⟩
    · rw [passE_spans h h']; exact ⟨fun x => absurd x h', fun x => absurd x.2.1 h'⟩
  · rw [passE_bad h]; exact ⟨fun x => absurd x (by decide), fun x => absurd x.1 h⟩
set_option maxHeartbeats 1000000 in
theorem zone_any (z : Int) (w : World) : Calls Try.prog 38 #[.int .i64 z] w fun e w' => e = .returned (.bool (zn z)) ∧ w = w' := by
  by_cases c : 0 ≤ z
  · have hz : zn z = decide (z < 6) := by unfold zn; rw [decide_eq_true c]; rfl
    rw [hz]
    go_enter Try.func38, Try.ntmps38
    go_wp2
    go_ret
    exact ⟨rfl, rfl⟩
  · have hz : zn z = false := by unfold zn; rw [decide_eq_false c]; rfl
    rw [hz]
    have c' : z < 0 := by omega
    go_enter Try.func38, Try.ntmps38
    go_wp2
    go_ret
    exact ⟨rfl, rfl⟩

set_option maxRecDepth 100000 in
set_option maxHeartbeats 4000000 in
theorem check_0 (id born a b ser : Int) (d : Value) (l : List Sp) (w : World) (h : RdE elS w d l) (g0 : id < 1) : Calls Try.prog 17 #[aP ⟨id, born, a, b, ser⟩ d] w (Sn.IntQ 3 w) := by
  have hle := h.len_le
  have HV := Lib.hid h
  obtain ⟨x, cap, rfl, h1, h2, h3⟩ := h
  have H3 := Lib.hid h3; clear h3
  have HA := Lib.hid ((br w).alloc (Nat.le_refl _) (.cells #[.int .i64 id, .int .i64 born, .int .i64 a, .int .i64 b, .int .i64 ser, .slice x l.length cap] 24))
  have HX := Lib.hid (Box.new w 24 [.int .i64 id, .int .i64 born, .int .i64 a, .int .i64 b, .int .i64 ser, .slice x l.length cap])
  clear HV H3
  go_enter Try.func17, Try.ntmps17
  go_wp2
  go_ret
  exact ⟨rfl, by first | exact HA.out | exact bn HA.out _⟩

set_option maxRecDepth 100000 in
set_option maxHeartbeats 4000000 in
theorem check_1 (id born a b ser : Int) (d : Value) (l : List Sp) (w : World) (h : RdE elS w d l) (g0 : 1 ≤ id) (g1 : 999999 < id) : Calls Try.prog 17 #[aP ⟨id, born, a, b, ser⟩ d] w (Sn.IntQ 3 w) := by
  have hle := h.len_le
  have HV := Lib.hid h
  obtain ⟨x, cap, rfl, h1, h2, h3⟩ := h
  have H3 := Lib.hid h3; clear h3
  have HA := Lib.hid ((br w).alloc (Nat.le_refl _) (.cells #[.int .i64 id, .int .i64 born, .int .i64 a, .int .i64 b, .int .i64 ser, .slice x l.length cap] 24))
  have HX := Lib.hid (Box.new w 24 [.int .i64 id, .int .i64 born, .int .i64 a, .int .i64 b, .int .i64 ser, .slice x l.length cap])
  clear HV H3
  go_enter Try.func17, Try.ntmps17
  go_wp2
  go_ret
  exact ⟨rfl, by first | exact HA.out | exact bn HA.out _⟩

set_option maxRecDepth 100000 in
set_option maxHeartbeats 4000000 in
theorem check_2 (id born a b ser : Int) (d : Value) (l : List Sp) (w : World) (h : RdE elS w d l) (g0 : 1 ≤ id) (g1 : id ≤ 999999) (g2 : isD born = false) : Calls Try.prog 17 #[aP ⟨id, born, a, b, ser⟩ d] w (Sn.IntQ 3 w) := by
  have hle := h.len_le
  have HV := Lib.hid h
  obtain ⟨x, cap, rfl, h1, h2, h3⟩ := h
  have H3 := Lib.hid h3; clear h3
  have HA := Lib.hid ((br w).alloc (Nat.le_refl _) (.cells #[.int .i64 id, .int .i64 born, .int .i64 a, .int .i64 b, .int .i64 ser, .slice x l.length cap] 24))
  have HX := Lib.hid (Box.new w 24 [.int .i64 id, .int .i64 born, .int .i64 a, .int .i64 b, .int .i64 ser, .slice x l.length cap])
  have cHI := g2
  have HI := Lib.hid (fun w => is_any born w)
  rw [cHI] at HI
  clear g2 cHI
  clear HV H3
  go_enter Try.func17, Try.ntmps17
  go_wp2_with (first | (go_at_call 26; (with_reducible refine (HI.out _).mono ?_); rintro en w2 ⟨rfl, rfl⟩) | (go_at_call 38; (with_reducible refine (HZA.out _).mono ?_); rintro en w3 ⟨rfl, rfl⟩) | (go_at_call 38; (with_reducible refine (HZB.out _).mono ?_); rintro en w4 ⟨rfl, rfl⟩))
  go_ret
  exact ⟨rfl, by first | exact HA.out | exact bn HA.out _⟩

set_option maxRecDepth 100000 in
set_option maxHeartbeats 4000000 in
theorem check_3 (id born a b ser : Int) (d : Value) (l : List Sp) (w : World) (h : RdE elS w d l) (g0 : 1 ≤ id) (g1 : id ≤ 999999) (g2 : isD born = true) (g3 : zn a = false) : Calls Try.prog 17 #[aP ⟨id, born, a, b, ser⟩ d] w (Sn.IntQ 3 w) := by
  have hle := h.len_le
  have HV := Lib.hid h
  obtain ⟨x, cap, rfl, h1, h2, h3⟩ := h
  have H3 := Lib.hid h3; clear h3
  have HA := Lib.hid ((br w).alloc (Nat.le_refl _) (.cells #[.int .i64 id, .int .i64 born, .int .i64 a, .int .i64 b, .int .i64 ser, .slice x l.length cap] 24))
  have HX := Lib.hid (Box.new w 24 [.int .i64 id, .int .i64 born, .int .i64 a, .int .i64 b, .int .i64 ser, .slice x l.length cap])
  have cHI := g2
  have HI := Lib.hid (fun w => is_any born w)
  rw [cHI] at HI
  clear g2 cHI
  have cHZA := g3
  have HZA := Lib.hid (fun w => zone_any a w)
  rw [cHZA] at HZA
  clear g3 cHZA
  clear HV H3
  go_enter Try.func17, Try.ntmps17
  go_wp2_with (first | (go_at_call 26; (with_reducible refine (HI.out _).mono ?_); rintro en w2 ⟨rfl, rfl⟩) | (go_at_call 38; (with_reducible refine (HZA.out _).mono ?_); rintro en w3 ⟨rfl, rfl⟩) | (go_at_call 38; (with_reducible refine (HZB.out _).mono ?_); rintro en w4 ⟨rfl, rfl⟩))
  go_ret
  exact ⟨rfl, by first | exact HA.out | exact bn HA.out _⟩

set_option maxRecDepth 100000 in
set_option maxHeartbeats 4000000 in
theorem check_4 (id born a b ser : Int) (d : Value) (l : List Sp) (w : World) (h : RdE elS w d l) (g0 : 1 ≤ id) (g1 : id ≤ 999999) (g2 : isD born = true) (g3 : zn a = true) (g4 : zn b = false) : Calls Try.prog 17 #[aP ⟨id, born, a, b, ser⟩ d] w (Sn.IntQ 3 w) := by
  have hle := h.len_le
  have HV := Lib.hid h
  obtain ⟨x, cap, rfl, h1, h2, h3⟩ := h
  have H3 := Lib.hid h3; clear h3
  have HA := Lib.hid ((br w).alloc (Nat.le_refl _) (.cells #[.int .i64 id, .int .i64 born, .int .i64 a, .int .i64 b, .int .i64 ser, .slice x l.length cap] 24))
  have HX := Lib.hid (Box.new w 24 [.int .i64 id, .int .i64 born, .int .i64 a, .int .i64 b, .int .i64 ser, .slice x l.length cap])
  have cHI := g2
  have HI := Lib.hid (fun w => is_any born w)
  rw [cHI] at HI
  clear g2 cHI
  have cHZA := g3
  have HZA := Lib.hid (fun w => zone_any a w)
  rw [cHZA] at HZA
  clear g3 cHZA
  have cHZB := g4
  have HZB := Lib.hid (fun w => zone_any b w)
  rw [cHZB] at HZB
  clear g4 cHZB
  clear HV H3
  go_enter Try.func17, Try.ntmps17
  go_wp2_with (first | (go_at_call 26; (with_reducible refine (HI.out _).mono ?_); rintro en w2 ⟨rfl, rfl⟩) | (go_at_call 38; (with_reducible refine (HZA.out _).mono ?_); rintro en w3 ⟨rfl, rfl⟩) | (go_at_call 38; (with_reducible refine (HZB.out _).mono ?_); rintro en w4 ⟨rfl, rfl⟩))
  go_ret
  exact ⟨rfl, by first | exact HA.out | exact bn HA.out _⟩

set_option maxRecDepth 100000 in
set_option maxHeartbeats 4000000 in
theorem check_5 (id born a b ser : Int) (d : Value) (l : List Sp) (w : World) (h : RdE elS w d l) (g0 : 1 ≤ id) (g1 : id ≤ 999999) (g2 : isD born = true) (g3 : zn a = true) (g4 : zn b = true) (g5 : b < a) : Calls Try.prog 17 #[aP ⟨id, born, a, b, ser⟩ d] w (Sn.IntQ 3 w) := by
  have hle := h.len_le
  have HV := Lib.hid h
  obtain ⟨x, cap, rfl, h1, h2, h3⟩ := h
  have H3 := Lib.hid h3; clear h3
  have HA := Lib.hid ((br w).alloc (Nat.le_refl _) (.cells #[.int .i64 id, .int .i64 born, .int .i64 a, .int .i64 b, .int .i64 ser, .slice x l.length cap] 24))
  have HX := Lib.hid (Box.new w 24 [.int .i64 id, .int .i64 born, .int .i64 a, .int .i64 b, .int .i64 ser, .slice x l.length cap])
  have cHI := g2
  have HI := Lib.hid (fun w => is_any born w)
  rw [cHI] at HI
  clear g2 cHI
  have cHZA := g3
  have HZA := Lib.hid (fun w => zone_any a w)
  rw [cHZA] at HZA
  clear g3 cHZA
  have cHZB := g4
  have HZB := Lib.hid (fun w => zone_any b w)
  rw [cHZB] at HZB
  clear g4 cHZB
  clear HV H3
  go_enter Try.func17, Try.ntmps17
  go_wp2_with (first | (go_at_call 26; (with_reducible refine (HI.out _).mono ?_); rintro en w2 ⟨rfl, rfl⟩) | (go_at_call 38; (with_reducible refine (HZA.out _).mono ?_); rintro en w3 ⟨rfl, rfl⟩) | (go_at_call 38; (with_reducible refine (HZB.out _).mono ?_); rintro en w4 ⟨rfl, rfl⟩))
  go_ret
  exact ⟨rfl, by first | exact HA.out | exact bn HA.out _⟩

set_option maxRecDepth 100000 in
set_option maxHeartbeats 4000000 in
theorem check_6 (id born a b ser : Int) (d : Value) (l : List Sp) (w : World) (h : RdE elS w d l) (g0 : 1 ≤ id) (g1 : id ≤ 999999) (g2 : isD born = true) (g3 : zn a = true) (g4 : zn b = true) (g5 : a ≤ b) (g6 : ser < 1) : Calls Try.prog 17 #[aP ⟨id, born, a, b, ser⟩ d] w (Sn.IntQ 3 w) := by
  have hle := h.len_le
  have HV := Lib.hid h
  obtain ⟨x, cap, rfl, h1, h2, h3⟩ := h
  have H3 := Lib.hid h3; clear h3
  have HA := Lib.hid ((br w).alloc (Nat.le_refl _) (.cells #[.int .i64 id, .int .i64 born, .int .i64 a, .int .i64 b, .int .i64 ser, .slice x l.length cap] 24))
  have HX := Lib.hid (Box.new w 24 [.int .i64 id, .int .i64 born, .int .i64 a, .int .i64 b, .int .i64 ser, .slice x l.length cap])
  have cHI := g2
  have HI := Lib.hid (fun w => is_any born w)
  rw [cHI] at HI
  clear g2 cHI
  have cHZA := g3
  have HZA := Lib.hid (fun w => zone_any a w)
  rw [cHZA] at HZA
  clear g3 cHZA
  have cHZB := g4
  have HZB := Lib.hid (fun w => zone_any b w)
  rw [cHZB] at HZB
  clear g4 cHZB
  clear HV H3
  go_enter Try.func17, Try.ntmps17
  go_wp2_with (first | (go_at_call 26; (with_reducible refine (HI.out _).mono ?_); rintro en w2 ⟨rfl, rfl⟩) | (go_at_call 38; (with_reducible refine (HZA.out _).mono ?_); rintro en w3 ⟨rfl, rfl⟩) | (go_at_call 38; (with_reducible refine (HZB.out _).mono ?_); rintro en w4 ⟨rfl, rfl⟩))
  go_ret
  exact ⟨rfl, by first | exact HA.out | exact bn HA.out _⟩

set_option maxRecDepth 100000 in
set_option maxHeartbeats 4000000 in
theorem check_7 (id born a b ser : Int) (d : Value) (l : List Sp) (w : World) (h : RdE elS w d l) (g0 : 1 ≤ id) (g1 : id ≤ 999999) (g2 : isD born = true) (g3 : zn a = true) (g4 : zn b = true) (g5 : a ≤ b) (g6 : 1 ≤ ser) (g7 : 999 < ser) : Calls Try.prog 17 #[aP ⟨id, born, a, b, ser⟩ d] w (Sn.IntQ 3 w) := by
  have hle := h.len_le
  have HV := Lib.hid h
  obtain ⟨x, cap, rfl, h1, h2, h3⟩ := h
  have H3 := Lib.hid h3; clear h3
  have HA := Lib.hid ((br w).alloc (Nat.le_refl _) (.cells #[.int .i64 id, .int .i64 born, .int .i64 a, .int .i64 b, .int .i64 ser, .slice x l.length cap] 24))
  have HX := Lib.hid (Box.new w 24 [.int .i64 id, .int .i64 born, .int .i64 a, .int .i64 b, .int .i64 ser, .slice x l.length cap])
  have cHI := g2
  have HI := Lib.hid (fun w => is_any born w)
  rw [cHI] at HI
  clear g2 cHI
  have cHZA := g3
  have HZA := Lib.hid (fun w => zone_any a w)
  rw [cHZA] at HZA
  clear g3 cHZA
  have cHZB := g4
  have HZB := Lib.hid (fun w => zone_any b w)
  rw [cHZB] at HZB
  clear g4 cHZB
  clear HV H3
  go_enter Try.func17, Try.ntmps17
  go_wp2_with (first | (go_at_call 26; (with_reducible refine (HI.out _).mono ?_); rintro en w2 ⟨rfl, rfl⟩) | (go_at_call 38; (with_reducible refine (HZA.out _).mono ?_); rintro en w3 ⟨rfl, rfl⟩) | (go_at_call 38; (with_reducible refine (HZB.out _).mono ?_); rintro en w4 ⟨rfl, rfl⟩))
  go_ret
  exact ⟨rfl, by first | exact HA.out | exact bn HA.out _⟩
end Pa
end Go.Proofs.Ytcgncmlldjblmaa
/- Passes: pass.Check as a whole. (gen_pass.py) -/
set_option linter.unusedVariables false
namespace Go.Proofs.Ytcgncmlldjblmaa
open Go.RowKit
namespace Pa
open Dt Sn
set_option maxRecDepth 100000 in
set_option maxHeartbeats 4000000 in
theorem check_8 (id born a b ser : Int) (d : Value) (l : List Sp) (w : World) (h : RdE elS w d l) (g0 : 1 ≤ id) (g1 : id ≤ 999999) (g2 : isD born = true) (g3 : zn a = true) (g4 : zn b = true) (g5 : a ≤ b) (g6 : 1 ≤ ser) (g7 : ser ≤ 999) : Calls Try.prog 17 #[aP ⟨id, born, a, b, ser⟩ d] w (Sn.IntQ (passE ⟨id, born, a, b, ser⟩ l) w) := by
  have hok : ok5 ⟨id, born, a, b, ser⟩ := ⟨g0, g1, g2, g3, g4, g5, g6, g7⟩
  have hq := Sn.check_any d l
  have hle := h.len_le
  have HV := Lib.hid h
  obtain ⟨x, cap, rfl, h1, h2, h3⟩ := h
  have H3 := Lib.hid h3; clear h3
  have HA := Lib.hid ((br w).alloc (Nat.le_refl _) (.cells #[.int .i64 id, .int .i64 born, .int .i64 a, .int .i64 b, .int .i64 ser, .slice x l.length cap] 24))
  have HX := Lib.hid (Box.new w 24 [.int .i64 id, .int .i64 born, .int .i64 a, .int .i64 b, .int .i64 ser, .slice x l.length cap])
  have cHI := g2
  have HI := Lib.hid (fun w => is_any born w)
  rw [cHI] at HI
  clear g2 cHI
  have cHZA := g3
  have HZA := Lib.hid (fun w => zone_any a w)
  rw [cHZA] at HZA
  clear g3 cHZA
  have cHZB := g4
  have HZB := Lib.hid (fun w => zone_any b w)
  rw [cHZB] at HZB
  clear g4 cHZB
  have CK := Lib.hid (fun w' (hb : Below w.heap.size w w') => hq w' (HV.out.below hb))
  clear hq
  by_cases c : chkS l = 0
  · rw [c] at CK
    by_cases c0 : 0 < l.length
    · have hE := inS3_ends ((chkS_ok l).1 c).2.2 c0
      have hF := passE_last hok c
      obtain ⟨bl, off, rfl, hbl, hc⟩ := H3.out c0
      obtain ⟨d0, _⟩ := eS_at hc 0 c0
      obtain ⟨_, d1⟩ := eS_at hc (l.length - 1) (by omega)
      try simp only [Nat.zero_mul, Nat.add_zero] at d0
      have D0 := Lib.hid d0; have D1 := Lib.hid d1
      have HBL := Lib.hid hbl
      obtain ⟨P, hP⟩ : ∃ P, l[0].1 = P := ⟨_, rfl⟩
      obtain ⟨Q, hQ⟩ : ∃ Q, (l[l.length - 1]'(by omega)).2 = Q := ⟨_, rfl⟩
      rw [hP] at D0 hE
      rw [hQ] at D1 hE
      obtain ⟨n, hn⟩ : ∃ n, l.length - 1 = n := ⟨_, rfl⟩
      rw [hn] at D1
      have hn2 : (l.length : Int) - 1 = (n : Int) := by omega
      have i1 : (n : Int) < (l.length : Int) := by omega
      have i2 : (0 : Int) < (l.length : Int) := by omega
      have i0 : (0 : Int) ≤ (n : Int) := by omega
      clear hc d0 d1 hP hQ hn c hok H3 HV hbl
      by_cases p1 : P < 1
      · rw [if_neg (fun x => by have := hE.1 x; omega)] at hF
        rw [hF]
        clear hE hF
        go_enter Try.func17, Try.ntmps17
        go_wp2_with (first | (go_at_call 26; (with_reducible refine (HI.out _).mono ?_); rintro en w2 ⟨rfl, rfl⟩) | (go_at_call 38; (with_reducible refine (HZA.out _).mono ?_); rintro en w3 ⟨rfl, rfl⟩) | (go_at_call 38; (with_reducible refine (HZB.out _).mono ?_); rintro en w4 ⟨rfl, rfl⟩))
        refine (CK.out _ (by first | exact HA.out | exact bn HA.out _)).mono ?_
        rintro en w5 ⟨rfl, b5⟩
        have HB5 := Lib.hid (bt HA.out b5)
        have hx5 := HX.out.next b5
        have k5 := hx5.cell 5
        simp only [List.getElem?_cons_zero, List.getElem?_cons_succ] at k5
        have d0 := (HB5.out.cell (p := ⟨bl, off, none⟩) HBL.out).trans D0.out
        have d1 := (HB5.out.cell (p := ⟨bl, off + n * 2 + 1, none⟩) HBL.out).trans D1.out
        clear hx5 b5
        go_wp2
        go_ret
        exact ⟨rfl, HB5.out⟩
      · by_cases p2 : 3652059 < Q
        · rw [if_neg (fun x => by have := hE.1 x; omega)] at hF
          rw [hF]
          clear hE hF
          go_enter Try.func17, Try.ntmps17
          go_wp2_with (first | (go_at_call 26; (with_reducible refine (HI.out _).mono ?_); rintro en w2 ⟨rfl, rfl⟩) | (go_at_call 38; (with_reducible refine (HZA.out _).mono ?_); rintro en w3 ⟨rfl, rfl⟩) | (go_at_call 38; (with_reducible refine (HZB.out _).mono ?_); rintro en w4 ⟨rfl, rfl⟩))
          refine (CK.out _ (by first | exact HA.out | exact bn HA.out _)).mono ?_
          rintro en w5 ⟨rfl, b5⟩
          have HB5 := Lib.hid (bt HA.out b5)
          have hx5 := HX.out.next b5
          have k5 := hx5.cell 5
          simp only [List.getElem?_cons_zero, List.getElem?_cons_succ] at k5
          have d0 := (HB5.out.cell (p := ⟨bl, off, none⟩) HBL.out).trans D0.out
          have d1 := (HB5.out.cell (p := ⟨bl, off + n * 2 + 1, none⟩) HBL.out).trans D1.out
          clear hx5 b5
          go_wp2
          go_ret
          exact ⟨rfl, HB5.out⟩
        · rw [if_pos (hE.2 (by omega))] at hF
          rw [hF]
          clear hE hF
          go_enter Try.func17, Try.ntmps17
          go_wp2_with (first | (go_at_call 26; (with_reducible refine (HI.out _).mono ?_); rintro en w2 ⟨rfl, rfl⟩) | (go_at_call 38; (with_reducible refine (HZA.out _).mono ?_); rintro en w3 ⟨rfl, rfl⟩) | (go_at_call 38; (with_reducible refine (HZB.out _).mono ?_); rintro en w4 ⟨rfl, rfl⟩))
          refine (CK.out _ (by first | exact HA.out | exact bn HA.out _)).mono ?_
          rintro en w5 ⟨rfl, b5⟩
          have HB5 := Lib.hid (bt HA.out b5)
          have hx5 := HX.out.next b5
          have k5 := hx5.cell 5
          simp only [List.getElem?_cons_zero, List.getElem?_cons_succ] at k5
          have d0 := (HB5.out.cell (p := ⟨bl, off, none⟩) HBL.out).trans D0.out
          have d1 := (HB5.out.cell (p := ⟨bl, off + n * 2 + 1, none⟩) HBL.out).trans D1.out
          clear hx5 b5
          go_wp2
          go_ret
          exact ⟨rfl, HB5.out⟩
    · have hl : l = [] := List.eq_nil_of_length_eq_zero (by omega)
      subst hl
      rw [passE_nil hok]
      have hq' : ¬ (0 : Int) < (([] : List Sp).length : Int) := by simp
      clear c H3 HV c0 h1 h2
      go_enter Try.func17, Try.ntmps17
      go_wp2_with (first | (go_at_call 26; (with_reducible refine (HI.out _).mono ?_); rintro en w2 ⟨rfl, rfl⟩) | (go_at_call 38; (with_reducible refine (HZA.out _).mono ?_); rintro en w3 ⟨rfl, rfl⟩) | (go_at_call 38; (with_reducible refine (HZB.out _).mono ?_); rintro en w4 ⟨rfl, rfl⟩))
      refine (CK.out _ (by first | exact HA.out | exact bn HA.out _)).mono ?_
      rintro en w5 ⟨rfl, b5⟩
      have HB5 := Lib.hid (bt HA.out b5)
      have hx5 := HX.out.next b5
      have k5 := hx5.cell 5
      simp only [List.getElem?_cons_zero, List.getElem?_cons_succ] at k5
      clear hx5 b5
      go_wp2
      go_ret
      exact ⟨rfl, HB5.out⟩
  · rw [passE_spans hok c]
    have hz : (chkS l == 0) = false := by simp [c]
    generalize chkS l = E at *
    clear H3 HV hok
    go_enter Try.func17, Try.ntmps17
    go_wp2_with (first | (go_at_call 26; (with_reducible refine (HI.out _).mono ?_); rintro en w2 ⟨rfl, rfl⟩) | (go_at_call 38; (with_reducible refine (HZA.out _).mono ?_); rintro en w3 ⟨rfl, rfl⟩) | (go_at_call 38; (with_reducible refine (HZB.out _).mono ?_); rintro en w4 ⟨rfl, rfl⟩))
    refine (CK.out _ (by first | exact HA.out | exact bn HA.out _)).mono ?_
    rintro en w5 ⟨rfl, b5⟩
    have HB5 := Lib.hid (bt HA.out b5)
    go_wp2
    go_ret
    exact ⟨rfl, HB5.out⟩
theorem check_any (p : Ps) (d : Value) (l : List Sp) (w : World) (h : RdE elS w d l) : Calls Try.prog 17 #[aP p d] w (Sn.IntQ (passE p l) w) := by
  obtain ⟨id, born, a, b, ser⟩ := p
  have bad : ¬ ok5 ⟨id, born, a, b, ser⟩ → passE ⟨id, born, a, b, ser⟩ l = 3 := passE_bad
  by_cases g0 : 1 ≤ id
  case neg => rw [bad (fun x => by have := x.1; simp only at this; omega)]; exact check_0 id born a b ser d l w h (by omega)
  by_cases g1 : id ≤ 999999
  case neg => rw [bad (fun x => by have := x.2.1; simp only at this; omega)]; exact check_1 id born a b ser d l w h g0 (by omega)
  cases g2 : isD born with
  | false => rw [bad (fun x => by have := x.2.2.1; simp only at this; rw [g2] at this; cases this)]; exact check_2 id born a b ser d l w h g0 g1 g2
  | true =>
  cases g3 : zn a with
  | false => rw [bad (fun x => by have := x.2.2.2.1; simp only at this; rw [g3] at this; cases this)]; exact check_3 id born a b ser d l w h g0 g1 g2 g3
  | true =>
  cases g4 : zn b with
  | false => rw [bad (fun x => by have := x.2.2.2.2.1; simp only at this; rw [g4] at this; cases this)]; exact check_4 id born a b ser d l w h g0 g1 g2 g3 g4
  | true =>
  by_cases g5 : a ≤ b
  case neg => rw [bad (fun x => by have := x.2.2.2.2.2.1; simp only at this; omega)]; exact check_5 id born a b ser d l w h g0 g1 g2 g3 g4 (by omega)
  by_cases g6 : 1 ≤ ser
  case neg => rw [bad (fun x => by have := x.2.2.2.2.2.2.1; simp only at this; omega)]; exact check_6 id born a b ser d l w h g0 g1 g2 g3 g4 g5 (by omega)
  by_cases g7 : ser ≤ 999
  case neg => rw [bad (fun x => by have := x.2.2.2.2.2.2.2; simp only at this; omega)]; exact check_7 id born a b ser d l w h g0 g1 g2 g3 g4 g5 g6 (by omega)
  exact check_8 id born a b ser d l w h g0 g1 g2 g3 g4 g5 g6 g7
end Pa
end Go.Proofs.Ytcgncmlldjblmaa
