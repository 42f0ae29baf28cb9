/- Joined by shake.py: PassCheck2 PassCheckR PassRenew PassPlain2. -/
import Derived.Lib.SliceRun
import Derived.Test.YtdfdjampodkpgaaDoorJDate
import Derived.Test.YtdfdjampodkpgaaDoorJSpans
import Derived.Test.YtdfdjampodkpgaaDoorJBase
import Derived.BigQuiet
import Derived.BigRegion
import Derived.Test.YtdfdjampodkpgaaDoorJSpansR
import Derived.Deep.Cut
import Derived.Deep.RegionHeld3
set_option linter.unusedSimpArgs false
set_option linter.unusedVariables false

/-! PassCheck2 -/
section
/- Passes: when is one right? (gen_pass.py) -/
set_option linter.unusedSimpArgs false
set_option linter.unusedVariables false
namespace Go.Proofs.YtdfdjampodkpgaaDoor
open Go.RowKit
namespace Pa
open Dt Sn
structure Ps where
  id : Int
  born : Int
  a : Int
  b : Int
  ser : Int
abbrev aP (p : Ps) (d : Value) : Value := .agg #[.int .i64 p.id, .int .i64 p.born, .int .i64 p.a, .int .i64 p.b, .int .i64 p.ser, d]
def zn (z : Int) : Bool := decide (0 ≤ z) && decide (z < 6)
def ok5 (p : Ps) : Prop := 1 ≤ p.id ∧ p.id ≤ 999999 ∧ isD p.born = true ∧ zn p.a = true ∧ zn p.b = true ∧ p.a ≤ p.b ∧ 1 ≤ p.ser ∧ p.ser ≤ 999
instance (p : Ps) : Decidable (ok5 p) := by unfold ok5; infer_instance
def inS3 (l : List Sp) : Prop := ∀ s ∈ l, 1 ≤ s.1 ∧ s.2 ≤ 3652059
instance (l : List Sp) : Decidable (inS3 l) := by unfold inS3; infer_instance
def passE (p : Ps) (l : List Sp) : Int := if ok5 p then (if chkS l = 0 then (if inS3 l then 0 else 3) else chkS l) else 3
theorem canon_first : ∀ {l : List Sp}, Canon l → ∀ (h : 0 < l.length), ∀ s ∈ l, l[0].1 ≤ s.1
  | s :: l, hc, _, t, ht => by
    rcases List.mem_cons.1 ht with rfl | ht
    · exact Int.le_refl _
    · have h1 := canon_from hc t ht
      have h2 := canon_head hc
      show s.1 ≤ t.1
      omega
theorem canon_last : ∀ {l : List Sp}, Canon l → ∀ (h : l.length - 1 < l.length), ∀ s ∈ l, s.2 ≤ l[l.length - 1].2
  | [s], hc, h, t, ht => by
    rcases List.mem_cons.1 ht with rfl | ht
    · exact Int.le_refl _
    · cases ht
  | s :: u :: l, hc, h, t, ht => by
    have hi := canon_last (canon_tail hc) (l := u :: l) (by simp)
    have hl : (s :: u :: l)[(s :: u :: l).length - 1] = (u :: l)[(u :: l).length - 1]'(by simp) := by simp
    rw [hl]
    rcases List.mem_cons.1 ht with rfl | ht
    · have h1 := canon_from hc u (by simp)
      have h2 := canon_head (canon_tail hc)
      have h3 := hi u (by simp)
      omega
    · exact hi t ht
theorem inS3_ends {l : List Sp} (hc : Canon l) (h : 0 < l.length) : inS3 l ↔ 1 ≤ l[0].1 ∧ (l[l.length - 1]'(by omega)).2 ≤ 3652059 := by
  constructor
  · intro hi
    exact ⟨(hi _ (List.getElem_mem h)).1, (hi _ (List.getElem_mem (by omega))).2⟩
  · rintro ⟨h1, h2⟩ s hs
    have g1 := canon_first hc h s hs
    have g2 := canon_last hc (by omega) s hs
    exact ⟨by omega, by omega⟩
theorem passE_bad {p : Ps} {l : List Sp} (h : ¬ ok5 p) : passE p l = 3 := by unfold passE; rw [if_neg h]
theorem passE_spans {p : Ps} {l : List Sp} (h : ok5 p) (h' : chkS l ≠ 0) : passE p l = chkS l := by unfold passE; rw [if_pos h, if_neg h']
theorem passE_last {p : Ps} {l : List Sp} (h : ok5 p) (h' : chkS l = 0) : passE p l = if inS3 l then 0 else 3 := by unfold passE; rw [if_pos h, if_pos h']
theorem passE_nil {p : Ps} (h : ok5 p) : passE p [] = 0 := by rw [passE_last h rfl, if_pos]; intro s hs; cases hs
theorem passE_ok {p : Ps} {l : List Sp} : passE p l = 0 ↔ ok5 p ∧ chkS l = 0 ∧ inS3 l := by
  by_cases h : ok5 p
  · by_cases h' : chkS l = 0
    · rw [passE_last h h']
      by_cases h2 : inS3 l
      · rw [if_pos h2]; exact ⟨fun _ => ⟨h, h', h2⟩, fun _ => rfl⟩
      · rw [if_neg h2]; exact ⟨fun x => absurd x (by decide), fun x => absurd x.2.2 h2⟩
    · rw [passE_spans h h']; exact ⟨fun x => absurd x h', fun x => absurd x.2.1 h'⟩
  · rw [passE_bad h]; exact ⟨fun x => absurd x (by decide), fun x => absurd x.1 h⟩
set_option maxHeartbeats 1000000 in
theorem zone_any (z : Int) (w : World) : Calls Tryd.prog 51 #[.int .i64 z] w fun e w' => e = .returned (.bool (zn z)) ∧ w = w' := by
  by_cases c : 0 ≤ z
  · have hz : zn z = decide (z < 6) := by unfold zn; rw [decide_eq_true c]; rfl
    rw [hz]
    go_enter Tryd.func51, Tryd.ntmps51
    go_wp2
    go_ret
    exact ⟨rfl, rfl⟩
  · have hz : zn z = false := by unfold zn; rw [decide_eq_false c]; rfl
    rw [hz]
    have c' : z < 0 := by omega
    go_enter Tryd.func51, Tryd.ntmps51
    go_wp2
    go_ret
    exact ⟨rfl, rfl⟩

set_option maxRecDepth 100000 in
set_option maxHeartbeats 4000000 in
theorem check_0 (id born a b ser : Int) (d : Value) (l : List Sp) (w : World) (h : RdE elS w d l) (g0 : id < 1) : Calls Tryd.prog 23 #[aP ⟨id, born, a, b, ser⟩ d] w (Sn.IntQ 3 w) := by
  have hle := h.len_le
  have HV := Lib.hid h
  obtain ⟨x, cap, rfl, h1, h2, h3⟩ := h
  have H3 := Lib.hid h3; clear h3
  have HA := Lib.hid ((br w).alloc (Nat.le_refl _) (.cells #[.int .i64 id, .int .i64 born, .int .i64 a, .int .i64 b, .int .i64 ser, .slice x l.length cap] 25))
  have HX := Lib.hid (Box.new w 25 [.int .i64 id, .int .i64 born, .int .i64 a, .int .i64 b, .int .i64 ser, .slice x l.length cap])
  clear HV H3
  go_enter Tryd.func23, Tryd.ntmps23
  go_wp2
  go_ret
  exact ⟨rfl, by first | exact HA.out | exact bn HA.out _⟩

set_option maxRecDepth 100000 in
set_option maxHeartbeats 4000000 in
theorem check_1 (id born a b ser : Int) (d : Value) (l : List Sp) (w : World) (h : RdE elS w d l) (g0 : 1 ≤ id) (g1 : 999999 < id) : Calls Tryd.prog 23 #[aP ⟨id, born, a, b, ser⟩ d] w (Sn.IntQ 3 w) := by
  have hle := h.len_le
  have HV := Lib.hid h
  obtain ⟨x, cap, rfl, h1, h2, h3⟩ := h
  have H3 := Lib.hid h3; clear h3
  have HA := Lib.hid ((br w).alloc (Nat.le_refl _) (.cells #[.int .i64 id, .int .i64 born, .int .i64 a, .int .i64 b, .int .i64 ser, .slice x l.length cap] 25))
  have HX := Lib.hid (Box.new w 25 [.int .i64 id, .int .i64 born, .int .i64 a, .int .i64 b, .int .i64 ser, .slice x l.length cap])
  clear HV H3
  go_enter Tryd.func23, Tryd.ntmps23
  go_wp2
  go_ret
  exact ⟨rfl, by first | exact HA.out | exact bn HA.out _⟩

set_option maxRecDepth 100000 in
set_option maxHeartbeats 4000000 in
theorem check_2 (id born a b ser : Int) (d : Value) (l : List Sp) (w : World) (h : RdE elS w d l) (g0 : 1 ≤ id) (g1 : id ≤ 999999) (g2 : isD born = false) : Calls Tryd.prog 23 #[aP ⟨id, born, a, b, ser⟩ d] w (Sn.IntQ 3 w) := by
  have hle := h.len_le
  have HV := Lib.hid h
  obtain ⟨x, cap, rfl, h1, h2, h3⟩ := h
  have H3 := Lib.hid h3; clear h3
  have HA := Lib.hid ((br w).alloc (Nat.le_refl _) (.cells #[.int .i64 id, .int .i64 born, .int .i64 a, .int .i64 b, .int .i64 ser, .slice x l.length cap] 25))
  have HX := Lib.hid (Box.new w 25 [.int .i64 id, .int .i64 born, .int .i64 a, .int .i64 b, .int .i64 ser, .slice x l.length cap])
  have cHI := g2
  have HI := Lib.hid (fun w => is_any born w)
  rw [cHI] at HI
  clear g2 cHI
  clear HV H3
  go_enter Tryd.func23, Tryd.ntmps23
  go_wp2_with (first | (go_at_call 52; (with_reducible refine (HI.out _).mono ?_); rintro en w2 ⟨rfl, rfl⟩) | (go_at_call 51; (with_reducible refine (HZA.out _).mono ?_); rintro en w3 ⟨rfl, rfl⟩) | (go_at_call 51; (with_reducible refine (HZB.out _).mono ?_); rintro en w4 ⟨rfl, rfl⟩))
  go_ret
  exact ⟨rfl, by first | exact HA.out | exact bn HA.out _⟩

set_option maxRecDepth 100000 in
set_option maxHeartbeats 4000000 in
theorem check_3 (id born a b ser : Int) (d : Value) (l : List Sp) (w : World) (h : RdE elS w d l) (g0 : 1 ≤ id) (g1 : id ≤ 999999) (g2 : isD born = true) (g3 : zn a = false) : Calls Tryd.prog 23 #[aP ⟨id, born, a, b, ser⟩ d] w (Sn.IntQ 3 w) := by
  have hle := h.len_le
  have HV := Lib.hid h
  obtain ⟨x, cap, rfl, h1, h2, h3⟩ := h
  have H3 := Lib.hid h3; clear h3
  have HA := Lib.hid ((br w).alloc (Nat.le_refl _) (.cells #[.int .i64 id, .int .i64 born, .int .i64 a, .int .i64 b, .int .i64 ser, .slice x l.length cap] 25))
  have HX := Lib.hid (Box.new w 25 [.int .i64 id, .int .i64 born, .int .i64 a, .int .i64 b, .int .i64 ser, .slice x l.length cap])
  have cHI := g2
  have HI := Lib.hid (fun w => is_any born w)
  rw [cHI] at HI
  clear g2 cHI
  have cHZA := g3
  have HZA := Lib.hid (fun w => zone_any a w)
  rw [cHZA] at HZA
  clear g3 cHZA
  clear HV H3
  go_enter Tryd.func23, Tryd.ntmps23
  go_wp2_with (first | (go_at_call 52; (with_reducible refine (HI.out _).mono ?_); rintro en w2 ⟨rfl, rfl⟩) | (go_at_call 51; (with_reducible refine (HZA.out _).mono ?_); rintro en w3 ⟨rfl, rfl⟩) | (go_at_call 51; (with_reducible refine (HZB.out _).mono ?_); rintro en w4 ⟨rfl, rfl⟩))
  go_ret
  exact ⟨rfl, by first | exact HA.out | exact bn HA.out _⟩

set_option maxRecDepth 100000 in
set_option maxHeartbeats 4000000 in
theorem check_4 (id born a b ser : Int) (d : Value) (l : List Sp) (w : World) (h : RdE elS w d l) (g0 : 1 ≤ id) (g1 : id ≤ 999999) (g2 : isD born = true) (g3 : zn a = true) (g4 : zn b = false) : Calls Tryd.prog 23 #[aP ⟨id, born, a, b, ser⟩ d] w (Sn.IntQ 3 w) := by
  have hle := h.len_le
  have HV := Lib.hid h
  obtain ⟨x, cap, rfl, h1, h2, h3⟩ := h
  have H3 := Lib.hid h3; clear h3
  have HA := Lib.hid ((br w).alloc (Nat.le_refl _) (.cells #[.int .i64 id, .int .i64 born, .int .i64 a, .int .i64 b, .int .i64 ser, .slice x l.length cap] 25))
  have HX := Lib.hid (Box.new w 25 [.int .i64 id, .int .i64 born, .int .i64 a, .int .i64 b, .int .i64 ser, .slice x l.length cap])
  have cHI := g2
  have HI := Lib.hid (fun w => is_any born w)
  rw [cHI] at HI
  clear g2 cHI
  have cHZA := g3
  have HZA := Lib.hid (fun w => zone_any a w)
  rw [cHZA] at HZA
  clear g3 cHZA
  have cHZB := g4
  have HZB := Lib.hid (fun w => zone_any b w)
  rw [cHZB] at HZB
  clear g4 cHZB
  clear HV H3
  go_enter Tryd.func23, Tryd.ntmps23
  go_wp2_with (first | (go_at_call 52; (with_reducible refine (HI.out _).mono ?_); rintro en w2 ⟨rfl, rfl⟩) | (go_at_call 51; (with_reducible refine (HZA.out _).mono ?_); rintro en w3 ⟨rfl, rfl⟩) | (go_at_call 51; (with_reducible refine (HZB.out _).mono ?_); rintro en w4 ⟨rfl, rfl⟩))
  go_ret
  exact ⟨rfl, by first | exact HA.out | exact bn HA.out _⟩

set_option maxRecDepth 100000 in
set_option maxHeartbeats 4000000 in
theorem check_5 (id born a b ser : Int) (d : Value) (l : List Sp) (w : World) (h : RdE elS w d l) (g0 : 1 ≤ id) (g1 : id ≤ 999999) (g2 : isD born = true) (g3 : zn a = true) (g4 : zn b = true) (g5 : b < a) : Calls Tryd.prog 23 #[aP ⟨id, born, a, b, ser⟩ d] w (Sn.IntQ 3 w) := by
  have hle := h.len_le
  have HV := Lib.hid h
  obtain ⟨x, cap, rfl, h1, h2, h3⟩ := h
  have H3 := Lib.hid h3; clear h3
  have HA := Lib.hid ((br w).alloc (Nat.le_refl _) (.cells #[.int .i64 id, .int .i64 born, .int .i64 a, .int .i64 b, .int .i64 ser, .slice x l.length cap] 25))
  have HX := Lib.hid (Box.new w 25 [.int .i64 id, .int .i64 born, .int .i64 a, .int .i64 b, .int .i64 ser, .slice x l.length cap])
  have cHI := g2
  have HI := Lib.hid (fun w => is_any born w)
  rw [cHI] at HI
  clear g2 cHI
  have cHZA := g3
  have HZA := Lib.hid (fun w => zone_any a w)
  rw [cHZA] at HZA
  clear g3 cHZA
  have cHZB := g4
  have HZB := Lib.hid (fun w => zone_any b w)
  rw [cHZB] at HZB
  clear g4 cHZB
  clear HV H3
  go_enter Tryd.func23, Tryd.ntmps23
  go_wp2_with (first | (go_at_call 52; (with_reducible refine (HI.out _).mono ?_); rintro en w2 ⟨rfl, rfl⟩) | (go_at_call 51; (with_reducible refine (HZA.out _).mono ?_); rintro en w3 ⟨rfl, rfl⟩) | (go_at_call 51; (with_reducible refine (HZB.out _).mono ?_); rintro en w4 ⟨rfl, rfl⟩))
  go_ret
  exact ⟨rfl, by first | exact HA.out | exact bn HA.out _⟩

set_option maxRecDepth 100000 in
set_option maxHeartbeats 4000000 in
theorem check_6 (id born a b ser : Int) (d : Value) (l : List Sp) (w : World) (h : RdE elS w d l) (g0 : 1 ≤ id) (g1 : id ≤ 999999) (g2 : isD born = true) (g3 : zn a = true) (g4 : zn b = true) (g5 : a ≤ b) (g6 : ser < 1) : Calls Tryd.prog 23 #[aP ⟨id, born, a, b, ser⟩ d] w (Sn.IntQ 3 w) := by
  have hle := h.len_le
  have HV := Lib.hid h
  obtain ⟨x, cap, rfl, h1, h2, h3⟩ := h
  have H3 := Lib.hid h3; clear h3
  have HA := Lib.hid ((br w).alloc (Nat.le_refl _) (.cells #[.int .i64 id, .int .i64 born, .int .i64 a, .int .i64 b, .int .i64 ser, .slice x l.length cap] 25))
  have HX := Lib.hid (Box.new w 25 [.int .i64 id, .int .i64 born, .int .i64 a, .int .i64 b, .int .i64 ser, .slice x l.length cap])
  have cHI := g2
  have HI := Lib.hid (fun w => is_any born w)
  rw [cHI] at HI
  clear g2 cHI
  have cHZA := g3
  have HZA := Lib.hid (fun w => zone_any a w)
  rw [cHZA] at HZA
  clear g3 cHZA
  have cHZB := g4
  have HZB := Lib.hid (fun w => zone_any b w)
  rw [cHZB] at HZB
  clear g4 cHZB
  clear HV H3
  go_enter Tryd.func23, Tryd.ntmps23
  go_wp2_with (first | (go_at_call 52; (with_reducible refine (HI.out _).mono ?_); rintro en w2 ⟨rfl, rfl⟩) | (go_at_call 51; (with_reducible refine (HZA.out _).mono ?_); rintro en w3 ⟨rfl, rfl⟩) | (go_at_call 51; (with_reducible refine (HZB.out _).mono ?_); rintro en w4 ⟨rfl, rfl⟩))
  go_ret
  exact ⟨rfl, by first | exact HA.out | exact bn HA.out _⟩

set_option maxRecDepth 100000 in
set_option maxHeartbeats 4000000 in
theorem check_7 (id born a b ser : Int) (d : Value) (l : List Sp) (w : World) (h : RdE elS w d l) (g0 : 1 ≤ id) (g1 : id ≤ 999999) (g2 : isD born = true) (g3 : zn a = true) (g4 : zn b = true) (g5 : a ≤ b) (g6 : 1 ≤ ser) (g7 : 999 < ser) : Calls Tryd.prog 23 #[aP ⟨id, born, a, b, ser⟩ d] w (Sn.IntQ 3 w) := by
  have hle := h.len_le
  have HV := Lib.hid h
  obtain ⟨x, cap, rfl, h1, h2, h3⟩ := h
  have H3 := Lib.hid h3; clear h3
  have HA := Lib.hid ((br w).alloc (Nat.le_refl _) (.cells #[.int .i64 id, .int .i64 born, .int .i64 a, .int .i64 b, .int .i64 ser, .slice x l.length cap] 25))
  have HX := Lib.hid (Box.new w 25 [.int .i64 id, .int .i64 born, .int .i64 a, .int .i64 b, .int .i64 ser, .slice x l.length cap])
  have cHI := g2
  have HI := Lib.hid (fun w => is_any born w)
  rw [cHI] at HI
  clear g2 cHI
  have cHZA := g3
  have HZA := Lib.hid (fun w => zone_any a w)
  rw [cHZA] at HZA
  clear g3 cHZA
  have cHZB := g4
  have HZB := Lib.hid (fun w => zone_any b w)
  rw [cHZB] at HZB
  clear g4 cHZB
  clear HV H3
  go_enter Tryd.func23, Tryd.ntmps23
  go_wp2_with (first | (go_at_call 52; (with_reducible refine (HI.out _).mono ?_); rintro en w2 ⟨rfl, rfl⟩) | (go_at_call 51; (with_reducible refine (HZA.out _).mono ?_); rintro en w3 ⟨rfl, rfl⟩) | (go_at_call 51; (with_reducible refine (HZB.out _).mono ?_); rintro en w4 ⟨rfl, rfl⟩))
  go_ret
  exact ⟨rfl, by first | exact HA.out | exact bn HA.out _⟩
end Pa
end Go.Proofs.YtdfdjampodkpgaaDoor
/- Passes: pass.Check as a whole. (gen_pass.py) -/
set_option linter.unusedVariables false
namespace Go.Proofs.YtdfdjampodkpgaaDoor
open Go.RowKit
namespace Pa
open Dt Sn
set_option maxRecDepth 100000 in
set_option maxHeartbeats 4000000 in
theorem check_8 (id born a b ser : Int) (d : Value) (l : List Sp) (w : World) (h : RdE elS w d l) (g0 : 1 ≤ id) (g1 : id ≤ 999999) (g2 : isD born = true) (g3 : zn a = true) (g4 : zn b = true) (g5 : a ≤ b) (g6 : 1 ≤ ser) (g7 : ser ≤ 999) : Calls Tryd.prog 23 #[aP ⟨id, born, a, b, ser⟩ d] w (Sn.IntQ (passE ⟨id, born, a, b, ser⟩ l) w) := by
  have hok : ok5 ⟨id, born, a, b, ser⟩ := ⟨g0, g1, g2, g3, g4, g5, g6, g7⟩
  have hq := Sn.check_any d l
  have hle := h.len_le
  have HV := Lib.hid h
  obtain ⟨x, cap, rfl, h1, h2, h3⟩ := h
  have H3 := Lib.hid h3; clear h3
  have HA := Lib.hid ((br w).alloc (Nat.le_refl _) (.cells #[.int .i64 id, .int .i64 born, .int .i64 a, .int .i64 b, .int .i64 ser, .slice x l.length cap] 25))
  have HX := Lib.hid (Box.new w 25 [.int .i64 id, .int .i64 born, .int .i64 a, .int .i64 b, .int .i64 ser, .slice x l.length cap])
  have cHI := g2
  have HI := Lib.hid (fun w => is_any born w)
  rw [cHI] at HI
  clear g2 cHI
  have cHZA := g3
  have HZA := Lib.hid (fun w => zone_any a w)
  rw [cHZA] at HZA
  clear g3 cHZA
  have cHZB := g4
  have HZB := Lib.hid (fun w => zone_any b w)
  rw [cHZB] at HZB
  clear g4 cHZB
  have CK := Lib.hid (fun w' (hb : Below w.heap.size w w') => hq w' (HV.out.below hb))
  clear hq
  by_cases c : chkS l = 0
  · rw [c] at CK
    by_cases c0 : 0 < l.length
    · have hE := inS3_ends ((chkS_ok l).1 c).2.2 c0
      have hF := passE_last hok c
      obtain ⟨bl, off, rfl, hbl, hc⟩ := H3.out c0
      obtain ⟨d0, _⟩ := eS_at hc 0 c0
      obtain ⟨_, d1⟩ := eS_at hc (l.length - 1) (by omega)
      try simp only [Nat.zero_mul, Nat.add_zero] at d0
      have D0 := Lib.hid d0; have D1 := Lib.hid d1
      have HBL := Lib.hid hbl
      obtain ⟨P, hP⟩ : ∃ P, l[0].1 = P := ⟨_, rfl⟩
      obtain ⟨Q, hQ⟩ : ∃ Q, (l[l.length - 1]'(by omega)).2 = Q := ⟨_, rfl⟩
      rw [hP] at D0 hE
      rw [hQ] at D1 hE
      obtain ⟨n, hn⟩ : ∃ n, l.length - 1 = n := ⟨_, rfl⟩
      rw [hn] at D1
      have hn2 : (l.length : Int) - 1 = (n : Int) := by omega
      have i1 : (n : Int) < (l.length : Int) := by omega
      have i2 : (0 : Int) < (l.length : Int) := by omega
      have i0 : (0 : Int) ≤ (n : Int) := by omega
      clear hc d0 d1 hP hQ hn c hok H3 HV hbl
      by_cases p1 : P < 1
      · rw [if_neg (fun x => by have := hE.1 x; omega)] at hF
        rw [hF]
        clear hE hF
        go_enter Tryd.func23, Tryd.ntmps23
        go_wp2_with (first | (go_at_call 52; (with_reducible refine (HI.out _).mono ?_); rintro en w2 ⟨rfl, rfl⟩) | (go_at_call 51; (with_reducible refine (HZA.out _).mono ?_); rintro en w3 ⟨rfl, rfl⟩) | (go_at_call 51; (with_reducible refine (HZB.out _).mono ?_); rintro en w4 ⟨rfl, rfl⟩))
        refine (CK.out _ (by first | exact HA.out | exact bn HA.out _)).mono ?_
        rintro en w5 ⟨rfl, b5⟩
        have HB5 := Lib.hid (bt HA.out b5)
        have hx5 := HX.out.next b5
        have k5 := hx5.cell 5
        simp only [List.getElem?_cons_zero, List.getElem?_cons_succ] at k5
        have d0 := (HB5.out.cell (p := ⟨bl, off, none⟩) HBL.out).trans D0.out
        have d1 := (HB5.out.cell (p := ⟨bl, off + n * 2 + 1, none⟩) HBL.out).trans D1.out
        clear hx5 b5
        go_wp2
        go_ret
        exact ⟨rfl, HB5.out⟩
      · by_cases p2 : 3652059 < Q
        · rw [if_neg (fun x => by have := hE.1 x; omega)] at hF
          rw [hF]
          clear hE hF
          go_enter Tryd.func23, Tryd.ntmps23
          go_wp2_with (first | (go_at_call 52; (with_reducible refine (HI.out _).mono ?_); rintro en w2 ⟨rfl, rfl⟩) | (go_at_call 51; (with_reducible refine (HZA.out _).mono ?_); rintro en w3 ⟨rfl, rfl⟩) | (go_at_call 51; (with_reducible refine (HZB.out _).mono ?_); rintro en w4 ⟨rfl, rfl⟩))
          refine (CK.out _ (by first | exact HA.out | exact bn HA.out _)).mono ?_
          rintro en w5 ⟨rfl, b5⟩
          have HB5 := Lib.hid (bt HA.out b5)
          have hx5 := HX.out.next b5
          have k5 := hx5.cell 5
          simp only [List.getElem?_cons_zero, List.getElem?_cons_succ] at k5
          have d0 := (HB5.out.cell (p := ⟨bl, off, none⟩) HBL.out).trans D0.out
          have d1 := (HB5.out.cell (p := ⟨bl, off + n * 2 + 1, none⟩) HBL.out).trans D1.out
          clear hx5 b5
          go_wp2
          go_ret
          exact ⟨rfl, HB5.out⟩
        · rw [if_pos (hE.2 (by omega))] at hF
          rw [hF]
          clear hE hF
          go_enter Tryd.func23, Tryd.ntmps23
          go_wp2_with (first | (go_at_call 52; (with_reducible refine (HI.out _).mono ?_); rintro en w2 ⟨rfl, rfl⟩) | (go_at_call 51; (with_reducible refine (HZA.out _).mono ?_); rintro en w3 ⟨rfl, rfl⟩) | (go_at_call 51; (with_reducible refine (HZB.out _).mono ?_); rintro en w4 ⟨rfl, rfl⟩))
          refine (CK.out _ (by first | exact HA.out | exact bn HA.out _)).mono ?_
          rintro en w5 ⟨rfl, b5⟩
          have HB5 := Lib.hid (bt HA.out b5)
          have hx5 := HX.out.next b5
          have k5 := hx5.cell 5
          simp only [List.getElem?_cons_zero, List.getElem?_cons_succ] at k5
          have d0 := (HB5.out.cell (p := ⟨bl, off, none⟩) HBL.out).trans D0.out
          have d1 := (HB5.out.cell (p := ⟨bl, off + n * 2 + 1, none⟩) HBL.out).trans D1.out
          clear hx5 b5
          go_wp2
          go_ret
          exact ⟨rfl, HB5.out⟩
    · have hl : l = [] := List.eq_nil_of_length_eq_zero (by omega)
      subst hl
      rw [passE_nil hok]
      have hq' : ¬ (0 : Int) < (([] : List Sp).length : Int) := by simp
      clear c H3 HV c0 h1 h2
      go_enter Tryd.func23, Tryd.ntmps23
      go_wp2_with (first | (go_at_call 52; (with_reducible refine (HI.out _).mono ?_); rintro en w2 ⟨rfl, rfl⟩) | (go_at_call 51; (with_reducible refine (HZA.out _).mono ?_); rintro en w3 ⟨rfl, rfl⟩) | (go_at_call 51; (with_reducible refine (HZB.out _).mono ?_); rintro en w4 ⟨rfl, rfl⟩))
      refine (CK.out _ (by first | exact HA.out | exact bn HA.out _)).mono ?_
      rintro en w5 ⟨rfl, b5⟩
      have HB5 := Lib.hid (bt HA.out b5)
      have hx5 := HX.out.next b5
      have k5 := hx5.cell 5
      simp only [List.getElem?_cons_zero, List.getElem?_cons_succ] at k5
      clear hx5 b5
      go_wp2
      go_ret
      exact ⟨rfl, HB5.out⟩
  · rw [passE_spans hok c]
    have hz : (chkS l == 0) = false := by simp [c]
    generalize chkS l = E at *
    clear H3 HV hok
    go_enter Tryd.func23, Tryd.ntmps23
    go_wp2_with (first | (go_at_call 52; (with_reducible refine (HI.out _).mono ?_); rintro en w2 ⟨rfl, rfl⟩) | (go_at_call 51; (with_reducible refine (HZA.out _).mono ?_); rintro en w3 ⟨rfl, rfl⟩) | (go_at_call 51; (with_reducible refine (HZB.out _).mono ?_); rintro en w4 ⟨rfl, rfl⟩))
    refine (CK.out _ (by first | exact HA.out | exact bn HA.out _)).mono ?_
    rintro en w5 ⟨rfl, b5⟩
    have HB5 := Lib.hid (bt HA.out b5)
    go_wp2
    go_ret
    exact ⟨rfl, HB5.out⟩
theorem check_any (p : Ps) (d : Value) (l : List Sp) (w : World) (h : RdE elS w d l) : Calls Tryd.prog 23 #[aP p d] w (Sn.IntQ (passE p l) w) := by
  obtain ⟨id, born, a, b, ser⟩ := p
  have bad : ¬ ok5 ⟨id, born, a, b, ser⟩ → passE ⟨id, born, a, b, ser⟩ l = 3 := passE_bad
  by_cases g0 : 1 ≤ id
  case neg => rw [bad (fun x => by have := x.1; simp only at this; omega)]; exact check_0 id born a b ser d l w h (by omega)
  by_cases g1 : id ≤ 999999
  case neg => rw [bad (fun x => by have := x.2.1; simp only at this; omega)]; exact check_1 id born a b ser d l w h g0 (by omega)
  cases g2 : isD born with
  | false => rw [bad (fun x => by have := x.2.2.1; simp only at this; rw [g2] at this; cases this)]; exact check_2 id born a b ser d l w h g0 g1 g2
  | true =>
  cases g3 : zn a with
  | false => rw [bad (fun x => by have := x.2.2.2.1; simp only at this; rw [g3] at this; cases this)]; exact check_3 id born a b ser d l w h g0 g1 g2 g3
  | true =>
  cases g4 : zn b with
  | false => rw [bad (fun x => by have := x.2.2.2.2.1; simp only at this; rw [g4] at this; cases this)]; exact check_4 id born a b ser d l w h g0 g1 g2 g3 g4
  | true =>
  by_cases g5 : a ≤ b
  case neg => rw [bad (fun x => by have := x.2.2.2.2.2.1; simp only at this; omega)]; exact check_5 id born a b ser d l w h g0 g1 g2 g3 g4 (by omega)
  by_cases g6 : 1 ≤ ser
  case neg => rw [bad (fun x => by have := x.2.2.2.2.2.2.1; simp only at this; omega)]; exact check_6 id born a b ser d l w h g0 g1 g2 g3 g4 g5 (by omega)
  by_cases g7 : ser ≤ 999
  case neg => rw [bad (fun x => by have := x.2.2.2.2.2.2.2; simp only at this; omega)]; exact check_7 id born a b ser d l w h g0 g1 g2 g3 g4 g5 g6 (by omega)
  exact check_8 id born a b ser d l w h g0 g1 g2 g3 g4 g5 g6 g7
end Pa
end Go.Proofs.YtdfdjampodkpgaaDoor
end

/-! PassCheckR -/
section
/- Passes: the document's check. (gen_pass.py) -/
set_option linter.unusedSimpArgs false
set_option linter.unusedVariables false
namespace Go.Proofs.YtdfdjampodkpgaaDoor
open Go.RowKit
namespace Pa
open Dt Sn

set_option maxRecDepth 100000 in
set_option maxHeartbeats 4000000 in
theorem checkR_0 (id born a b ser : Int) (d : Value) (l : List Sp) (w : World) (h : RdE elS w d l) (g0 : id < 1) : Calls Tryd.prog 30 #[aP ⟨id, born, a, b, ser⟩ d] w (Sn.IntQ 3 w) := by
  have hle := h.len_le
  have HV := Lib.hid h
  obtain ⟨x, cap, rfl, h1, h2, h3⟩ := h
  have H3 := Lib.hid h3; clear h3
  have HA := Lib.hid ((br w).alloc (Nat.le_refl _) (.cells #[.int .i64 id, .int .i64 born, .int .i64 a, .int .i64 b, .int .i64 ser, .slice x l.length cap] 25))
  have HX := Lib.hid (Box.new w 25 [.int .i64 id, .int .i64 born, .int .i64 a, .int .i64 b, .int .i64 ser, .slice x l.length cap])
  clear HV H3
  go_enter Tryd.func30, Tryd.ntmps30
  go_wp2
  go_ret
  exact ⟨rfl, by first | exact HA.out | exact bn HA.out _⟩

set_option maxRecDepth 100000 in
set_option maxHeartbeats 4000000 in
theorem checkR_1 (id born a b ser : Int) (d : Value) (l : List Sp) (w : World) (h : RdE elS w d l) (g0 : 1 ≤ id) (g1 : 999999 < id) : Calls Tryd.prog 30 #[aP ⟨id, born, a, b, ser⟩ d] w (Sn.IntQ 3 w) := by
  have hle := h.len_le
  have HV := Lib.hid h
  obtain ⟨x, cap, rfl, h1, h2, h3⟩ := h
  have H3 := Lib.hid h3; clear h3
  have HA := Lib.hid ((br w).alloc (Nat.le_refl _) (.cells #[.int .i64 id, .int .i64 born, .int .i64 a, .int .i64 b, .int .i64 ser, .slice x l.length cap] 25))
  have HX := Lib.hid (Box.new w 25 [.int .i64 id, .int .i64 born, .int .i64 a, .int .i64 b, .int .i64 ser, .slice x l.length cap])
  clear HV H3
  go_enter Tryd.func30, Tryd.ntmps30
  go_wp2
  go_ret
  exact ⟨rfl, by first | exact HA.out | exact bn HA.out _⟩

set_option maxRecDepth 100000 in
set_option maxHeartbeats 4000000 in
theorem checkR_2 (id born a b ser : Int) (d : Value) (l : List Sp) (w : World) (h : RdE elS w d l) (g0 : 1 ≤ id) (g1 : id ≤ 999999) (g2 : isD born = false) : Calls Tryd.prog 30 #[aP ⟨id, born, a, b, ser⟩ d] w (Sn.IntQ 3 w) := by
  have hle := h.len_le
  have HV := Lib.hid h
  obtain ⟨x, cap, rfl, h1, h2, h3⟩ := h
  have H3 := Lib.hid h3; clear h3
  have HA := Lib.hid ((br w).alloc (Nat.le_refl _) (.cells #[.int .i64 id, .int .i64 born, .int .i64 a, .int .i64 b, .int .i64 ser, .slice x l.length cap] 25))
  have HX := Lib.hid (Box.new w 25 [.int .i64 id, .int .i64 born, .int .i64 a, .int .i64 b, .int .i64 ser, .slice x l.length cap])
  have cHI := g2
  have HI := Lib.hid (fun w => noDay_any born w)
  rw [cHI] at HI
  clear g2 cHI
  clear HV H3
  go_enter Tryd.func30, Tryd.ntmps30
  go_wp2_with (first | (go_at_call 62; (with_reducible refine (HI.out _).mono ?_); rintro en w2 ⟨rfl, rfl⟩))
  go_ret
  exact ⟨rfl, by first | exact HA.out | exact bn HA.out _⟩

set_option maxRecDepth 100000 in
set_option maxHeartbeats 4000000 in
theorem checkR_3 (id born a b ser : Int) (d : Value) (l : List Sp) (w : World) (h : RdE elS w d l) (g0 : 1 ≤ id) (g1 : id ≤ 999999) (g2 : isD born = true) (g3 : a < 0) : Calls Tryd.prog 30 #[aP ⟨id, born, a, b, ser⟩ d] w (Sn.IntQ 3 w) := by
  have hle := h.len_le
  have HV := Lib.hid h
  obtain ⟨x, cap, rfl, h1, h2, h3⟩ := h
  have H3 := Lib.hid h3; clear h3
  have HA := Lib.hid ((br w).alloc (Nat.le_refl _) (.cells #[.int .i64 id, .int .i64 born, .int .i64 a, .int .i64 b, .int .i64 ser, .slice x l.length cap] 25))
  have HX := Lib.hid (Box.new w 25 [.int .i64 id, .int .i64 born, .int .i64 a, .int .i64 b, .int .i64 ser, .slice x l.length cap])
  have cHI := g2
  have HI := Lib.hid (fun w => noDay_any born w)
  rw [cHI] at HI
  clear g2 cHI
  clear HV H3
  go_enter Tryd.func30, Tryd.ntmps30
  go_wp2_with (first | (go_at_call 62; (with_reducible refine (HI.out _).mono ?_); rintro en w2 ⟨rfl, rfl⟩))
  go_ret
  exact ⟨rfl, by first | exact HA.out | exact bn HA.out _⟩

set_option maxRecDepth 100000 in
set_option maxHeartbeats 4000000 in
theorem checkR_4 (id born a b ser : Int) (d : Value) (l : List Sp) (w : World) (h : RdE elS w d l) (g0 : 1 ≤ id) (g1 : id ≤ 999999) (g2 : isD born = true) (g3 : 0 ≤ a) (g4 : b < a) : Calls Tryd.prog 30 #[aP ⟨id, born, a, b, ser⟩ d] w (Sn.IntQ 3 w) := by
  have hle := h.len_le
  have HV := Lib.hid h
  obtain ⟨x, cap, rfl, h1, h2, h3⟩ := h
  have H3 := Lib.hid h3; clear h3
  have HA := Lib.hid ((br w).alloc (Nat.le_refl _) (.cells #[.int .i64 id, .int .i64 born, .int .i64 a, .int .i64 b, .int .i64 ser, .slice x l.length cap] 25))
  have HX := Lib.hid (Box.new w 25 [.int .i64 id, .int .i64 born, .int .i64 a, .int .i64 b, .int .i64 ser, .slice x l.length cap])
  have cHI := g2
  have HI := Lib.hid (fun w => noDay_any born w)
  rw [cHI] at HI
  clear g2 cHI
  clear HV H3
  go_enter Tryd.func30, Tryd.ntmps30
  go_wp2_with (first | (go_at_call 62; (with_reducible refine (HI.out _).mono ?_); rintro en w2 ⟨rfl, rfl⟩))
  go_ret
  exact ⟨rfl, by first | exact HA.out | exact bn HA.out _⟩

set_option maxRecDepth 100000 in
set_option maxHeartbeats 4000000 in
theorem checkR_5 (id born a b ser : Int) (d : Value) (l : List Sp) (w : World) (h : RdE elS w d l) (g0 : 1 ≤ id) (g1 : id ≤ 999999) (g2 : isD born = true) (g3 : 0 ≤ a) (g4 : a ≤ b) (g5 : 5 < b) : Calls Tryd.prog 30 #[aP ⟨id, born, a, b, ser⟩ d] w (Sn.IntQ 3 w) := by
  have hle := h.len_le
  have HV := Lib.hid h
  obtain ⟨x, cap, rfl, h1, h2, h3⟩ := h
  have H3 := Lib.hid h3; clear h3
  have HA := Lib.hid ((br w).alloc (Nat.le_refl _) (.cells #[.int .i64 id, .int .i64 born, .int .i64 a, .int .i64 b, .int .i64 ser, .slice x l.length cap] 25))
  have HX := Lib.hid (Box.new w 25 [.int .i64 id, .int .i64 born, .int .i64 a, .int .i64 b, .int .i64 ser, .slice x l.length cap])
  have cHI := g2
  have HI := Lib.hid (fun w => noDay_any born w)
  rw [cHI] at HI
  clear g2 cHI
  clear HV H3
  go_enter Tryd.func30, Tryd.ntmps30
  go_wp2_with (first | (go_at_call 62; (with_reducible refine (HI.out _).mono ?_); rintro en w2 ⟨rfl, rfl⟩))
  go_ret
  exact ⟨rfl, by first | exact HA.out | exact bn HA.out _⟩

set_option maxRecDepth 100000 in
set_option maxHeartbeats 4000000 in
theorem checkR_6 (id born a b ser : Int) (d : Value) (l : List Sp) (w : World) (h : RdE elS w d l) (g0 : 1 ≤ id) (g1 : id ≤ 999999) (g2 : isD born = true) (g3 : 0 ≤ a) (g4 : a ≤ b) (g5 : b ≤ 5) (g6 : ser < 1) : Calls Tryd.prog 30 #[aP ⟨id, born, a, b, ser⟩ d] w (Sn.IntQ 3 w) := by
  have hle := h.len_le
  have HV := Lib.hid h
  obtain ⟨x, cap, rfl, h1, h2, h3⟩ := h
  have H3 := Lib.hid h3; clear h3
  have HA := Lib.hid ((br w).alloc (Nat.le_refl _) (.cells #[.int .i64 id, .int .i64 born, .int .i64 a, .int .i64 b, .int .i64 ser, .slice x l.length cap] 25))
  have HX := Lib.hid (Box.new w 25 [.int .i64 id, .int .i64 born, .int .i64 a, .int .i64 b, .int .i64 ser, .slice x l.length cap])
  have cHI := g2
  have HI := Lib.hid (fun w => noDay_any born w)
  rw [cHI] at HI
  clear g2 cHI
  clear HV H3
  go_enter Tryd.func30, Tryd.ntmps30
  go_wp2_with (first | (go_at_call 62; (with_reducible refine (HI.out _).mono ?_); rintro en w2 ⟨rfl, rfl⟩))
  go_ret
  exact ⟨rfl, by first | exact HA.out | exact bn HA.out _⟩

set_option maxRecDepth 100000 in
set_option maxHeartbeats 4000000 in
theorem checkR_7 (id born a b ser : Int) (d : Value) (l : List Sp) (w : World) (h : RdE elS w d l) (g0 : 1 ≤ id) (g1 : id ≤ 999999) (g2 : isD born = true) (g3 : 0 ≤ a) (g4 : a ≤ b) (g5 : b ≤ 5) (g6 : 1 ≤ ser) (g7 : 999 < ser) : Calls Tryd.prog 30 #[aP ⟨id, born, a, b, ser⟩ d] w (Sn.IntQ 3 w) := by
  have hle := h.len_le
  have HV := Lib.hid h
  obtain ⟨x, cap, rfl, h1, h2, h3⟩ := h
  have H3 := Lib.hid h3; clear h3
  have HA := Lib.hid ((br w).alloc (Nat.le_refl _) (.cells #[.int .i64 id, .int .i64 born, .int .i64 a, .int .i64 b, .int .i64 ser, .slice x l.length cap] 25))
  have HX := Lib.hid (Box.new w 25 [.int .i64 id, .int .i64 born, .int .i64 a, .int .i64 b, .int .i64 ser, .slice x l.length cap])
  have cHI := g2
  have HI := Lib.hid (fun w => noDay_any born w)
  rw [cHI] at HI
  clear g2 cHI
  clear HV H3
  go_enter Tryd.func30, Tryd.ntmps30
  go_wp2_with (first | (go_at_call 62; (with_reducible refine (HI.out _).mono ?_); rintro en w2 ⟨rfl, rfl⟩))
  go_ret
  exact ⟨rfl, by first | exact HA.out | exact bn HA.out _⟩

theorem inS3_step (l : List Sp) (k : Nat) (h : k < l.length) : inS3 (l.drop k) ↔ (1 ≤ l[k].1 ∧ l[k].2 ≤ 3652059) ∧ inS3 (l.drop (k + 1)) := by
  rw [List.drop_eq_getElem_cons h]
  unfold inS3
  simp only [List.mem_cons, forall_eq_or_imp]
set_option maxRecDepth 100000 in
set_option maxHeartbeats 4000000 in
theorem checkR_8 (id born a b ser : Int) (d : Value) (l : List Sp) (w : World) (h : RdE elS w d l) (g0 : 1 ≤ id) (g1 : id ≤ 999999) (g2 : isD born = true) (g3 : 0 ≤ a) (g4 : a ≤ b) (g5 : b ≤ 5) (g6 : 1 ≤ ser) (g7 : ser ≤ 999) : Calls Tryd.prog 30 #[aP ⟨id, born, a, b, ser⟩ d] w (Sn.IntQ (passE ⟨id, born, a, b, ser⟩ l) w) := by
  have hok : ok5 ⟨id, born, a, b, ser⟩ := ⟨g0, g1, g2, by simp only [zn, decide_eq_true (show 0 ≤ a by omega), decide_eq_true (show a < 6 by omega)]; rfl, by simp only [zn, decide_eq_true (show 0 ≤ b by omega), decide_eq_true (show b < 6 by omega)]; rfl, g4, g6, g7⟩
  have hq := Sn.checkR_any d l
  have hle := h.len_le
  have HV := Lib.hid h
  obtain ⟨x, cap, rfl, h1, h2, h3⟩ := h
  have H3 := Lib.hid h3; clear h3
  have HA := Lib.hid ((br w).alloc (Nat.le_refl _) (.cells #[.int .i64 id, .int .i64 born, .int .i64 a, .int .i64 b, .int .i64 ser, .slice x l.length cap] 25))
  have HX := Lib.hid (Box.new w 25 [.int .i64 id, .int .i64 born, .int .i64 a, .int .i64 b, .int .i64 ser, .slice x l.length cap])
  have cHI := g2
  have HI := Lib.hid (fun w => noDay_any born w)
  rw [cHI] at HI
  clear g2 cHI
  have CK := Lib.hid (fun w' (hb : Below w.heap.size w w') => hq w' (HV.out.below hb))
  clear hq
  by_cases c : chkS l = 0
  · rw [c] at CK
    have HF0 := Lib.hid (passE_last hok c)
    clear c hok
    go_enter Tryd.func30, Tryd.ntmps30
    go_wp2_with (first | (go_at_call 62; (with_reducible refine (HI.out _).mono ?_); rintro en w2 ⟨rfl, rfl⟩))
    refine (CK.out _ (by first | exact HA.out | exact bn HA.out _)).mono ?_
    rintro en w5 ⟨rfl, b5⟩
    have HB5 := Lib.hid (bt HA.out b5)
    have HX5 := Lib.hid (HX.out.next b5)
    clear b5 g0 g1 g3 g4 g5 g6 g7 HA HX CK HI HV
    go_wp2
    go_loopw [4] (fun i wr => ∃ k : Nat, k ≤ l.length ∧ i = .int .i64 k ∧ (inS3 l ↔ inS3 (l.drop k)) ∧ Below w.heap.size w wr ∧ Box wr w.heap.size 25 [.int .i64 id, .int .i64 born, .int .i64 a, .int .i64 b, .int .i64 ser, .slice x l.length cap]) (fun i _ => l.length - (intOf i).toNat)
    case atStart => exact ⟨0, Nat.zero_le _, rfl, Iff.rfl, HB5.out, HX5.out⟩
    case round =>
      obtain ⟨k, hk, rfl, hch, hbw, hx⟩ := hrel
      have HBW := Lib.hid hbw
      have k5 := hx.cell 5
      simp only [List.getElem?_cons_zero, List.getElem?_cons_succ] at k5
      have HXW := Lib.hid hx
      have hF := HF0.out
      clear hx HF0
      by_cases hlt : k < l.length
      · obtain ⟨g, off, rfl, hbl, hc⟩ := H3.out (by omega)
        obtain ⟨q0, q1⟩ := eS_at hc k hlt
        have d0 := (hbw.cell (p := ⟨g, off + k * 2, none⟩) hbl).trans q0
        have d1 := (hbw.cell (p := ⟨g, off + k * 2 + 1, none⟩) hbl).trans q1
        have i1 : (k : Int) < (l.length : Int) := by omega
        have i0 : (0 : Int) ≤ (k : Int) := by omega
        rw [inS3_step l k hlt] at hch
        clear hc q0 q1 hbw H3
        generalize l[k].1 = P at *; generalize l[k].2 = Q at *
        by_cases p1 : P < 1
        · rw [if_neg (fun y => by have := (hch.1 y).1; omega)] at hF
          have HF := Lib.hid hF
          clear hF hch
          go_wp2
          go_ret
          exact ⟨by rw [HF.out]; rfl, HBW.out⟩
        · by_cases p2 : 3652059 < Q
          · rw [if_neg (fun y => by have := (hch.1 y).1; omega)] at hF
            have HF := Lib.hid hF
            clear hF hch
            go_wp2
            go_ret
            exact ⟨by rw [HF.out]; rfl, HBW.out⟩
          · have HCH := Lib.hid (show inS3 l ↔ inS3 (l.drop (k + 1)) from ⟨fun y => (hch.1 y).2, fun y => hch.2 ⟨⟨by omega, by omega⟩, y⟩⟩)
            clear hF hch
            go_wp2
            go_roundw
            case rel => exact ⟨k + 1, by omega, by go_num, HCH.out, HBW.out, HXW.out⟩
            case measure => simp [intOf]; omega
      · have i1 : ¬ (k : Int) < (l.length : Int) := by omega
        rw [if_pos (hch.2 (by rw [List.drop_eq_nil_of_le (by omega)]; intro s hs; cases hs))] at hF
        have HF := Lib.hid hF
        clear H3 hF hch
        go_wp2
        go_ret
        exact ⟨by rw [HF.out]; rfl, HBW.out⟩
  · rw [passE_spans hok c]
    have hz : (chkS l == 0) = false := by simp [c]
    generalize chkS l = E at *
    clear H3 HV hok
    go_enter Tryd.func30, Tryd.ntmps30
    go_wp2_with (first | (go_at_call 62; (with_reducible refine (HI.out _).mono ?_); rintro en w2 ⟨rfl, rfl⟩))
    refine (CK.out _ (by first | exact HA.out | exact bn HA.out _)).mono ?_
    rintro en w5 ⟨rfl, b5⟩
    have HB5 := Lib.hid (bt HA.out b5)
    go_wp2
    go_ret
    exact ⟨rfl, HB5.out⟩
theorem checkR_any (p : Ps) (d : Value) (l : List Sp) (w : World) (h : RdE elS w d l) : Calls Tryd.prog 30 #[aP p d] w (Sn.IntQ (passE p l) w) := by
  obtain ⟨id, born, a, b, ser⟩ := p
  have bad : ¬ ok5 ⟨id, born, a, b, ser⟩ → passE ⟨id, born, a, b, ser⟩ l = 3 := passE_bad
  have hz : ok5 ⟨id, born, a, b, ser⟩ → 0 ≤ a ∧ b ≤ 5 := fun y => by
    have h3 := y.2.2.2.1; have h4 := y.2.2.2.2.1
    unfold zn at h3 h4
    simp at h3 h4
    omega
  by_cases g0 : 1 ≤ id
  case neg => rw [bad (fun x => by have := x.1; simp only at this; omega)]; exact checkR_0 id born a b ser d l w h (by omega)
  by_cases g1 : id ≤ 999999
  case neg => rw [bad (fun x => by have := x.2.1; simp only at this; omega)]; exact checkR_1 id born a b ser d l w h g0 (by omega)
  cases g2 : isD born with
  | false => rw [bad (fun x => by have := x.2.2.1; simp only at this; rw [g2] at this; cases this)]; exact checkR_2 id born a b ser d l w h g0 g1 g2
  | true =>
  by_cases g3 : 0 ≤ a
  case neg => rw [bad (fun x => by have := hz x; omega)]; exact checkR_3 id born a b ser d l w h g0 g1 g2 (by omega)
  by_cases g4 : a ≤ b
  case neg => rw [bad (fun x => by have := x.2.2.2.2.2.1; simp only at this; omega)]; exact checkR_4 id born a b ser d l w h g0 g1 g2 g3 (by omega)
  by_cases g5 : b ≤ 5
  case neg => rw [bad (fun x => by have := hz x; omega)]; exact checkR_5 id born a b ser d l w h g0 g1 g2 g3 g4 (by omega)
  by_cases g6 : 1 ≤ ser
  case neg => rw [bad (fun x => by have := x.2.2.2.2.2.2.1; simp only at this; omega)]; exact checkR_6 id born a b ser d l w h g0 g1 g2 g3 g4 g5 (by omega)
  by_cases g7 : ser ≤ 999
  case neg => rw [bad (fun x => by have := x.2.2.2.2.2.2.2; simp only at this; omega)]; exact checkR_7 id born a b ser d l w h g0 g1 g2 g3 g4 g5 g6 (by omega)
  exact checkR_8 id born a b ser d l w h g0 g1 g2 g3 g4 g5 g6 g7
end Pa
end Go.Proofs.YtdfdjampodkpgaaDoor
end

/-! PassRenew -/
section
/- Passes: those that answer a pass. (gen_pass2.py) -/
set_option linter.unusedSimpArgs false
set_option linter.unusedVariables false
namespace Go.Proofs.YtdfdjampodkpgaaDoor
open Go.RowKit
namespace Pa
open Dt Sn
/-- a slice that does not lie in this block -/
def Off (v : Value) (b : Nat) : Prop := ∀ a n c, v = .slice (some a) n c → 0 < n → a.block ≠ b
theorem off_nil (b : Nat) : Off (.slice none 0 0) b := fun a n c h => by cases h
abbrev PassQ (d : Value) (p : Ps) (l : List Sp) (er : Int) (w : World) (e : Ending) (w' : World) : Prop := ∃ v, e = .returned (.tuple #[aP p v, .int .i64 er]) ∧ RdE elS w' v l ∧ (∀ b, b < w.heap.size → Off d b → Off v b) ∧ Below w.heap.size w w'
abbrev PassNQ (d : Value) (p : Ps) (l : List Sp) (n er : Int) (w : World) (e : Ending) (w' : World) : Prop := ∃ v, e = .returned (.tuple #[aP p v, .int .i64 n, .int .i64 er]) ∧ RdE elS w' v l ∧ (∀ b, b < w.heap.size → Off d b → Off v b) ∧ Below w.heap.size w w'
theorem off_own {w : World} {B : Nat} {v : Value} {l : List Sp} (h : ROwn elS w B v l) {b : Nat} (hb : b < B) : Off v b := fun a n c hk _ he => by subst hk; have := (h.lt a.block rfl).1; omega
theorem off_rd {w : World} {v : Value} {l : List Sp} (h : RdE elS w v l) {b : Nat} (hb : w.heap.size ≤ b) : Off v b := fun a n c hk hn he => by
  obtain ⟨a', cap, rfl, h1, h2, h3⟩ := h
  cases hk
  obtain ⟨g, off, e, hlt, _⟩ := h3 hn
  cases e
  simp only at he
  omega
theorem rd_put {w : World} {v : Value} {l : List Sp} {b : Nat} (h : RdE elS w v l) (ho : Off v b) (j : Nat) (u : Value) : RdE elS (w.setCell ⟨b, j, none⟩ u) v l := by
  obtain ⟨a, cap, rfl, h1, h2, h3⟩ := h
  refine ⟨a, cap, rfl, h1, h2, fun hn => ?_⟩
  obtain ⟨g, off, rfl, hlt, hc⟩ := h3 hn
  have hne : g ≠ b := ho _ _ _ rfl hn
  refine ⟨g, off, rfl, by simpa using hlt, fun i hi j' u' hu => ?_⟩
  rw [← hc i hi j' u' hu]
  have := Below.heap_setCell w ⟨b, j, none⟩ u g hne
  simp only [World.cell?, this]
theorem rd_put6 {w : World} {v : Value} {l : List Sp} {b : Nat} (h : RdE elS w v l) (ho : Off v b) (v0 v1 v2 v3 v4 v5 : Value) :
    RdE elS ((((((w.setCell ⟨b, 0, none⟩ v0).setCell ⟨b, 1, none⟩ v1).setCell ⟨b, 2, none⟩ v2).setCell ⟨b, 3, none⟩ v3).setCell ⟨b, 4, none⟩ v4).setCell ⟨b, 5, none⟩ v5) v l :=
  rd_put (rd_put (rd_put (rd_put (rd_put (rd_put h ho _ _) ho _ _) ho _ _) ho _ _) ho _ _) ho _ _
@[reducible] def p0 : Ps := ⟨0, 0, 0, 0, 0⟩
theorem rd_nil (w : World) : RdE elS w (.slice none 0 0) [] := ⟨none, 0, rfl, Nat.le_refl _, Nat.zero_le _, fun h => by simp at h⟩
/-- a struct's box of a pass -/
abbrev Pb (w : World) (b : Nat) (p : Ps) (d : Value) : Prop := Box w b 25 [.int .i64 p.id, .int .i64 p.born, .int .i64 p.a, .int .i64 p.b, .int .i64 p.ser, d]
theorem Pb.put {w : World} {b : Nat} {c0 c1 c2 c3 c4 c5 : Value} (h : Box w b 25 [c0, c1, c2, c3, c4, c5]) (q : Ps) (v : Value) :
    Pb ((((((w.setCell ⟨b, 0, none⟩ (.int .i64 q.id)).setCell ⟨b, 1, none⟩ (.int .i64 q.born)).setCell ⟨b, 2, none⟩ (.int .i64 q.a)).setCell ⟨b, 3, none⟩ (.int .i64 q.b)).setCell ⟨b, 4, none⟩ (.int .i64 q.ser)).setCell ⟨b, 5, none⟩ v) b q v :=
  (((((h.set 0 _).set 1 _).set 2 _).set 3 _).set 4 _).set 5 _
theorem below6 {B : Nat} {w w' : World} {b : Nat} (h : Below B w w') (hb : B ≤ b) (v0 v1 v2 v3 v4 v5 : Value) :
    Below B w ((((((w'.setCell ⟨b, 0, none⟩ v0).setCell ⟨b, 1, none⟩ v1).setCell ⟨b, 2, none⟩ v2).setCell ⟨b, 3, none⟩ v3).setCell ⟨b, 4, none⟩ v4).setCell ⟨b, 5, none⟩ v5) :=
  (((((h.setCell hb v0).setCell hb v1).setCell hb v2).setCell hb v3).setCell hb v4).setCell hb v5

theorem Bx.others {w : World} {b b' : Nat} {t : TypeId} {cs : List Value} (h : Box w b t cs) (hne : b ≠ b') (v0 v1 v2 v3 v4 v5 : Value) :
    Box ((((((w.setCell ⟨b', 0, none⟩ v0).setCell ⟨b', 1, none⟩ v1).setCell ⟨b', 2, none⟩ v2).setCell ⟨b', 3, none⟩ v3).setCell ⟨b', 4, none⟩ v4).setCell ⟨b', 5, none⟩ v5) b t cs :=
  (((((h.other b' 0 v0 hne).other b' 1 v1 hne).other b' 2 v2 hne).other b' 3 v3 hne).other b' 4 v4 hne).other b' 5 v5 hne

end Pa
end Go.Proofs.YtdfdjampodkpgaaDoor
/- Passes: one term from a day on; a new pass; where a pass ends. (gen_pass3.py) -/
set_option linter.unusedVariables false
namespace Go.Proofs.YtdfdjampodkpgaaDoor
open Go.RowKit
namespace Pa
open Dt Sn
def oneL (s u N : Int) : List Sp := if (nthF u N s 1).2 = 0 then [(s, (nthF u N s 1).1)] else []
abbrev OneQ (l : List Sp) (er : Int) (w : World) (e : Ending) (w' : World) : Prop := ∃ v, e = .returned (.tuple #[v, .int .i64 er]) ∧ RdE elS w' v l ∧ (∀ b, b < w.heap.size → Off v b) ∧ Below w.heap.size w w'
def newE (id born a b s u N : Int) : Int := if (nthF u N s 1).2 = 0 then passE ⟨id, born, a, b, 1⟩ (oneL s u N) else (nthF u N s 1).2
def endD (l : List Sp) : Int := if h : 0 < l.length then (l[l.length - 1]'(by omega)).2 else 0
end Pa
end Go.Proofs.YtdfdjampodkpgaaDoor
/- Passes: a pass with other days. (gen_pass3.py) -/
set_option linter.unusedVariables false
namespace Go.Proofs.YtdfdjampodkpgaaDoor
open Go.RowKit
namespace Pa
open Dt Sn
abbrev R3 := (Ps × List Sp) × Int × Int
abbrev R3Q (d : Value) (r : R3) (w : World) := PassNQ d r.1.1 r.1.2 r.2.1 r.2.2 w
def withF (p : Ps) (l m : List Sp) : R3 := if passE p m = 0 then ((p, m), max (sizeN m - sizeN l) (sizeN l - sizeN m), 0) else ((p0, []), 0, passE p m)
end Pa
end Go.Proofs.YtdfdjampodkpgaaDoor
/- Passes: whose days are its own; has a pass a day. (gen_pass3.py) -/
set_option linter.unusedVariables false
namespace Go.Proofs.YtdfdjampodkpgaaDoor
open Go.RowKit
namespace Pa
open Dt Sn
def rawB (p : Ps) (l : List Sp) (n z : Int) : Bool := hasB l n && (decide (p.a ≤ z) && decide (z ≤ p.b))
set_option maxRecDepth 100000 in
set_option maxHeartbeats 4000000 in
theorem raw_any (p : Ps) (d : Value) (l : List Sp) (n z : Int) (w : World) (h : RdE elS w d l) : Calls Tryd.prog 43 #[aP p d, .int .i64 n, .int .i64 z] w (BoolQ (rawB p l n z) w) := by
  have C1 := Lib.hid (fun w' (hb : Below w.heap.size w w') => has_fn d l n w' (h.below hb))
  obtain ⟨id, born, a, b, ser⟩ := p
  obtain ⟨x, cap, rfl, _, _, _⟩ := h
  unfold rawB
  generalize chkS l = K at *
  obtain ⟨B, hB⟩ : ∃ B, hasB l n = B := ⟨_, rfl⟩
  rw [hB] at C1 ⊢
  clear hB
  have HA := Lib.hid ((br w).alloc (Nat.le_refl _) (.cells #[.int .i64 id, .int .i64 born, .int .i64 a, .int .i64 b, .int .i64 ser, .slice x l.length cap] 25))
  have hx : Pb (w.alloc (.cells #[.int .i64 id, .int .i64 born, .int .i64 a, .int .i64 b, .int .i64 ser, .slice x l.length cap] 25)) w.heap.size ⟨id, born, a, b, ser⟩ (.slice x l.length cap) := Box.new w _ _
  have HX := Lib.hid hx
  clear hx
  cases B with
  | false =>
    go_enter Tryd.func43, Tryd.ntmps43
    go_wp2_with fail
    refine (C1.out _ (by first | exact HA.out | exact bn HA.out _)).mono ?_
    rintro en w2 ⟨rfl, b2⟩
    have HB := Lib.hid (bt HA.out b2)
    have hx := HX.out.next b2
    have k0 := hx.cell 0; have k1 := hx.cell 1; have k2 := hx.cell 2; have k3 := hx.cell 3; have k4 := hx.cell 4; have k5 := hx.cell 5
    simp only [List.getElem?_cons_zero, List.getElem?_cons_succ] at k0 k1 k2 k3 k4 k5
    clear b2 hx HX HA C1
    go_wp2
    go_ret
    exact ⟨rfl, HB.out⟩
  | true =>
    by_cases c : a ≤ z
    · have hr : (true && (decide (a ≤ z) && decide (z ≤ b))) = decide (z ≤ b) := by rw [decide_eq_true c]; rfl
      rw [hr]
      clear hr
      go_enter Tryd.func43, Tryd.ntmps43
      go_wp2_with fail
      refine (C1.out _ (by first | exact HA.out | exact bn HA.out _)).mono ?_
      rintro en w2 ⟨rfl, b2⟩
      have HB := Lib.hid (bt HA.out b2)
      have hx := HX.out.next b2
      have k0 := hx.cell 0; have k1 := hx.cell 1; have k2 := hx.cell 2; have k3 := hx.cell 3; have k4 := hx.cell 4; have k5 := hx.cell 5
      simp only [List.getElem?_cons_zero, List.getElem?_cons_succ] at k0 k1 k2 k3 k4 k5
      clear b2 hx HX HA C1
      go_wp2
      go_ret
      exact ⟨rfl, HB.out⟩
    · have hr : (true && (decide (a ≤ z) && decide (z ≤ b))) = false := by rw [decide_eq_false c]; rfl
      rw [hr]
      clear hr
      go_enter Tryd.func43, Tryd.ntmps43
      go_wp2_with fail
      refine (C1.out _ (by first | exact HA.out | exact bn HA.out _)).mono ?_
      rintro en w2 ⟨rfl, b2⟩
      have HB := Lib.hid (bt HA.out b2)
      have hx := HX.out.next b2
      have k0 := hx.cell 0; have k1 := hx.cell 1; have k2 := hx.cell 2; have k3 := hx.cell 3; have k4 := hx.cell 4; have k5 := hx.cell 5
      simp only [List.getElem?_cons_zero, List.getElem?_cons_succ] at k0 k1 k2 k3 k4 k5
      clear b2 hx HX HA C1
      go_wp2
      go_ret
      exact ⟨rfl, HB.out⟩
set_option maxRecDepth 100000 in
set_option maxHeartbeats 4000000 in
theorem has_any (p : Ps) (d : Value) (l : List Sp) (n z : Int) (w : World) (h : RdE elS w d l) : Calls Tryd.prog 17 #[aP p d, .int .i64 n, .int .i64 z] w (fun e w' => e = .returned (.tuple #[.bool (decide (passE p l = 0) && rawB p l n z), .int .i64 (passE p l)]) ∧ Below w.heap.size w w') := by
  have C1 := Lib.hid (fun w' (hb : Below w.heap.size w w') => check_any p d l w' (h.below hb))
  have C2 := Lib.hid (fun w' (hb : Below w.heap.size w w') => raw_any p d l n z w' (h.below hb))
  obtain ⟨id, born, a, b, ser⟩ := p
  obtain ⟨x, cap, rfl, _, _, _⟩ := h
  obtain ⟨B, hB⟩ : ∃ B, rawB ⟨id, born, a, b, ser⟩ l n z = B := ⟨_, rfl⟩
  rw [hB] at C2 ⊢
  clear hB
  obtain ⟨E, hE⟩ : ∃ E, passE ⟨id, born, a, b, ser⟩ l = E := ⟨_, rfl⟩
  rw [hE] at C1 ⊢
  clear hE
  have HA := Lib.hid ((br w).alloc (Nat.le_refl _) (.cells #[.int .i64 id, .int .i64 born, .int .i64 a, .int .i64 b, .int .i64 ser, .slice x l.length cap] 25))
  have hx : Pb (w.alloc (.cells #[.int .i64 id, .int .i64 born, .int .i64 a, .int .i64 b, .int .i64 ser, .slice x l.length cap] 25)) w.heap.size ⟨id, born, a, b, ser⟩ (.slice x l.length cap) := Box.new w _ _
  have HX := Lib.hid hx
  clear hx
  by_cases c : E = 0
  · subst c
    rw [show (decide ((0 : Int) = 0) && B) = B by simp]
    go_enter Tryd.func17, Tryd.ntmps17
    go_wp2_with fail
    refine (C1.out _ (by first | exact HA.out | exact bn HA.out _)).mono ?_
    rintro en w2 ⟨rfl, b2⟩
    have HB := Lib.hid (bt HA.out b2)
    have hx := HX.out.next b2
    have k0 := hx.cell 0; have k1 := hx.cell 1; have k2 := hx.cell 2; have k3 := hx.cell 3; have k4 := hx.cell 4; have k5 := hx.cell 5
    simp only [List.getElem?_cons_zero, List.getElem?_cons_succ] at k0 k1 k2 k3 k4 k5
    clear b2 hx HX HA C1
    go_wp2_with fail
    refine (C2.out _ HB.out).mono ?_
    rintro en w3 ⟨rfl, b3⟩
    have HB3 := Lib.hid (bt HB.out b3)
    clear b3
    go_wp2
    go_ret2
    exact ⟨rfl, HB3.out⟩
  · rw [show (decide (E = 0) && B) = false by rw [decide_eq_false c]; rfl]
    have hz : (E == 0) = false := by simpa using c
    go_enter Tryd.func17, Tryd.ntmps17
    go_wp2_with fail
    refine (C1.out _ (by first | exact HA.out | exact bn HA.out _)).mono ?_
    rintro en w2 ⟨rfl, b2⟩
    have HB := Lib.hid (bt HA.out b2)
    clear b2
    go_wp2
    go_ret2
    exact ⟨rfl, HB.out⟩
set_option maxHeartbeats 1000000 in
theorem clone_any (v : Value) (xs : List Sp) (w : World) (h : RdE elS w v xs) (hl : xs.length ≤ 1000) : Calls Tryd.prog 73 #[v] w fun e w' => ∃ v', e = .returned v' ∧ ROwn elS w' w.heap.size v' xs ∧ Below w.heap.size w w' := by
  have H := Lib.hid h
  obtain ⟨a, cap, rfl, h1, h2, h3⟩ := h
  rcases a with _ | ad
  · have hz : xs = [] := by
      rcases xs with _ | ⟨x, xs⟩
      · rfl
      · obtain ⟨b, off, e, _⟩ := h3 (by simp); cases e
    subst hz
    have q : ∀ w, (binOp .eql 23 (.slice none 0 cap) (.slice none 0 0)).run Tryd.prog w = .ok (.bool true) w := fun w => Lib.run_eql_slice_nil w _ _ none 0 cap 0 0 Tryd.underlying23
    have hN := Lib.hid (ROwn.nil (E := elS) w w.heap.size)
    clear h3
    show Calls _ _ #[.slice none 0 cap] _ _
    go_enter Tryd.func73, Tryd.ntmps73
    go_wp2
    go_ret
    exact ⟨_, rfl, hN.out, br _⟩
  · clear h3
    have q : ∀ w, (binOp .eql 23 (.slice (some ad) xs.length cap) (.slice none 0 0)).run Tryd.prog w = .ok (.bool false) w := fun w => Lib.run_eql_slice_nil w _ _ (some ad) xs.length cap 0 0 Tryd.underlying23
    go_enter Tryd.func73, Tryd.ntmps73
    go_wp2_with (at_builtin; refine appE elS rfl (.tmp 5) (.tmp 6) rfl w.heap.size _ [] rfl (ROwn.lit0 w w.heap.size w.heap.size rfl (Nat.le_refl _)) _ xs rfl (H.out.below ((br w).alloc (Nat.le_refl _) _)) (by simp [maxLen]; omega) (by simp; omega) (by simp) ?_; intro v1 w5 hown1 hb5 hfar5; have HO1 := Lib.hid hown1; have HB5 := Lib.hid (((br w).alloc (Nat.le_refl _) _).trans hb5); clear hown1 hfar5 hb5)
    go_ret
    exact ⟨_, rfl, HO1.out, HB5.out⟩
set_option maxRecDepth 100000 in
set_option maxHeartbeats 4000000 in
theorem own_any (p : Ps) (d : Value) (l : List Sp) (w : World) (h : RdE elS w d l) (hl : l.length ≤ 1000) : Calls Tryd.prog 48 #[aP p d] w (fun e w' => ∃ v, e = .returned (aP p v) ∧ RdE elS w' v l ∧ (∀ b, b < w.heap.size → Off v b) ∧ Below w.heap.size w w') := by
  have C1 := Lib.hid (fun w' (hb : Below w.heap.size w w') => clone_any d l w' (h.below hb) hl)
  obtain ⟨id, born, a, b, ser⟩ := p
  obtain ⟨x, cap, rfl, _, _, _⟩ := h
  have HA := Lib.hid (((br w).alloc (Nat.le_refl _) (.cells #[.int .i64 id, .int .i64 born, .int .i64 a, .int .i64 b, .int .i64 ser, .slice x l.length cap] 25)).alloc (by simp) (.cells #[.int .i64 0, .int .i64 0, .int .i64 0, .int .i64 0, .int .i64 0, .slice none 0 0] 25))
  have hx : Pb (w.alloc (.cells #[.int .i64 id, .int .i64 born, .int .i64 a, .int .i64 b, .int .i64 ser, .slice x l.length cap] 25)) w.heap.size ⟨id, born, a, b, ser⟩ (.slice x l.length cap) := Box.new w _ _
  have HX := Lib.hid (Box.alloc hx (.cells #[.int .i64 0, .int .i64 0, .int .i64 0, .int .i64 0, .int .i64 0, .slice none 0 0] 25))
  have hy : Pb ((w.alloc (.cells #[.int .i64 id, .int .i64 born, .int .i64 a, .int .i64 b, .int .i64 ser, .slice x l.length cap] 25)).alloc (.cells #[.int .i64 0, .int .i64 0, .int .i64 0, .int .i64 0, .int .i64 0, .slice none 0 0] 25)) (w.alloc (.cells #[.int .i64 id, .int .i64 born, .int .i64 a, .int .i64 b, .int .i64 ser, .slice x l.length cap] 25)).heap.size ⟨0, 0, 0, 0, 0⟩ (.slice none 0 0) := Box.new _ _ _
  rw [asz] at hy
  have HY := Lib.hid hy
  clear hy hx
  go_enter Tryd.func48, Tryd.ntmps48
  go_wp2_with fail
  refine (C1.out _ (by first | exact HA.out | exact bn HA.out _)).mono ?_
  rintro en w2 ⟨v2, rfl, ho2, b2⟩
  have HB := Lib.hid (bt HA.out b2)
  have hx := HX.out.next b2
  have hy := HY.out.next b2
  have hlt := hy.lt
  have hlt0 := hx.lt
  have HO2 := Lib.hid (fun b (hb : b < w.heap.size + 2) => off_own ho2 (b := b) (by simp; omega))
  have HV2 := Lib.hid ho2.rd
  obtain ⟨x2, cap2, rfl, _, _, _⟩ := ho2.rd
  clear ho2
  have k0 := hx.cell 0; have k1 := hx.cell 1; have k2 := hx.cell 2; have k3 := hx.cell 3; have k4 := hx.cell 4; have k5 := hx.cell 5
  simp only [List.getElem?_cons_zero, List.getElem?_cons_succ] at k0 k1 k2 k3 k4 k5
  have f0 := hx.froz 0; have f1 := hx.froz 1; have f2 := hx.froz 2; have f3 := hx.froz 3; have f4 := hx.froz 4; have f5 := hx.froz 5
  have HX3 := Lib.hid (hx.set 5 (.slice x2 l.length cap2))
  have HY3 := Lib.hid (hy.other w.heap.size 5 (.slice x2 l.length cap2) (by omega))
  have HB3 := Lib.hid (HB.out.setCell (p := ⟨w.heap.size, 5, none⟩) (Nat.le_refl _) (.slice x2 l.length cap2))
  have HV3 := Lib.hid (rd_put HV2.out (HO2.out w.heap.size (by omega)) 5 (.slice x2 l.length cap2))
  clear b2 hx hy HX HY HA HB HV2 C1
  go_upto_region 2 with (fail)
  generalize w2.setCell ⟨w.heap.size, 5, none⟩ (.slice x2 l.length cap2) = W3 at HX3 HY3 HB3 HV3 ⊢
  clear k0 k1 k2 k3 k4 k5 f0 f1 f2 f3 f4 f5 hlt hlt0
  have hx := HX3.out
  have hy := HY3.out
  have hlt := hy.lt
  simp only [List.set_cons_zero, List.set_cons_succ] at hx
  have k0 := hx.cell 0; have k1 := hx.cell 1; have k2 := hx.cell 2; have k3 := hx.cell 3; have k4 := hx.cell 4; have k5 := hx.cell 5
  simp only [List.getElem?_cons_zero, List.getElem?_cons_succ] at k0 k1 k2 k3 k4 k5
  have z0 := hy.cell 0; have z1 := hy.cell 1; have z2 := hy.cell 2; have z3 := hy.cell 3; have z4 := hy.cell 4; have z5 := hy.cell 5
  simp only [List.getElem?_cons_zero, List.getElem?_cons_succ] at z0 z1 z2 z3 z4 z5
  have f0 := hy.froz 0; have f1 := hy.froz 1; have f2 := hy.froz 2; have f3 := hy.froz 3; have f4 := hy.froz 4; have f5 := hy.froz 5
  clear hx hy
  go_wp2
  have P := Pb.put HY3.out ⟨id, born, a, b, ser⟩ (.slice x2 l.length cap2)
  have Q := below6 HB3.out (b := w.heap.size + 1) (by omega) (.int .i64 id) (.int .i64 born) (.int .i64 a) (.int .i64 b) (.int .i64 ser) ((.slice x2 l.length cap2))
  have R := rd_put6 (b := w.heap.size + 1) HV3.out (HO2.out _ (by omega)) (.int .i64 id) (.int .i64 born) (.int .i64 a) (.int .i64 b) (.int .i64 ser) ((.slice x2 l.length cap2))
  generalize (((((W3.setCell ⟨w.heap.size + 1, 0, none⟩ (.int .i64 id)).setCell ⟨w.heap.size + 1, 1, none⟩ (.int .i64 born)).setCell ⟨w.heap.size + 1, 2, none⟩ (.int .i64 a)).setCell ⟨w.heap.size + 1, 3, none⟩ (.int .i64 b)).setCell ⟨w.heap.size + 1, 4, none⟩ (.int .i64 ser)).setCell ⟨w.heap.size + 1, 5, none⟩ ((.slice x2 l.length cap2)) = W2 at P Q R ⊢
  have y0 := P.cell 0; have y1 := P.cell 1; have y2 := P.cell 2; have y3 := P.cell 3; have y4 := P.cell 4; have y5 := P.cell 5
  simp only [List.getElem?_cons_zero, List.getElem?_cons_succ] at y0 y1 y2 y3 y4 y5
  refine bodyPost_ret (v := aP ⟨id, born, a, b, ser⟩ (.slice x2 l.length cap2)) (by simp [results, Tryd.results48, go_sem, y0, y1, y2, y3, y4, y5]) rfl ⟨_, rfl, R, fun b hb => HO2.out b (by omega), Q⟩
end Pa
end Go.Proofs.YtdfdjampodkpgaaDoor
/- Passes: a pass that is replaced, or cut. (gen_pass3.py) -/
set_option linter.unusedVariables false
namespace Go.Proofs.YtdfdjampodkpgaaDoor
open Go.RowKit
namespace Pa
open Dt Sn
def repE (p : Ps) (l : List Sp) : Int := if passE p l = 0 then (if p.ser = 999 then 2 else 0) else passE p l
abbrev repP (p : Ps) : Ps := ⟨p.id, p.born, p.a, p.b, p.ser + 1⟩
set_option maxRecDepth 100000 in
set_option maxHeartbeats 4000000 in
theorem replace_any (p : Ps) (d : Value) (l : List Sp) (w : World) (h : RdE elS w d l) : Calls Tryd.prog 21 #[aP p d] w (PassQ (.slice none 0 0) (if repE p l = 0 then repP p else p0) (if repE p l = 0 then l else []) (repE p l) w) := by
  have C1 := Lib.hid (fun w' (hb : Below w.heap.size w w') => check_any p d l w' (h.below hb))
  have C2 := Lib.hid (fun (hl : l.length ≤ 1000) w' (hb : Below w.heap.size w w') => own_any p d l w' (h.below hb) hl)
  have HE := Lib.hid (fun (hz : passE p l = 0) => passE_ok.1 hz)
  unfold repE
  obtain ⟨E, hE⟩ : ∃ E, passE p l = E := ⟨_, rfl⟩
  rw [hE] at C1 HE ⊢
  clear hE
  obtain ⟨id, born, a, b, ser⟩ := p
  obtain ⟨x, cap, rfl, _, _, _⟩ := h
  simp only [repP]
  have HA := Lib.hid (((br w).alloc (Nat.le_refl _) (.cells #[.int .i64 id, .int .i64 born, .int .i64 a, .int .i64 b, .int .i64 ser, .slice x l.length cap] 25)).alloc (by simp) (.cells #[.int .i64 0, .int .i64 0, .int .i64 0, .int .i64 0, .int .i64 0, .slice none 0 0] 25))
  have hx : Pb (w.alloc (.cells #[.int .i64 id, .int .i64 born, .int .i64 a, .int .i64 b, .int .i64 ser, .slice x l.length cap] 25)) w.heap.size ⟨id, born, a, b, ser⟩ (.slice x l.length cap) := Box.new w _ _
  have HX := Lib.hid (Box.alloc hx (.cells #[.int .i64 0, .int .i64 0, .int .i64 0, .int .i64 0, .int .i64 0, .slice none 0 0] 25))
  have hy : Pb ((w.alloc (.cells #[.int .i64 id, .int .i64 born, .int .i64 a, .int .i64 b, .int .i64 ser, .slice x l.length cap] 25)).alloc (.cells #[.int .i64 0, .int .i64 0, .int .i64 0, .int .i64 0, .int .i64 0, .slice none 0 0] 25)) (w.alloc (.cells #[.int .i64 id, .int .i64 born, .int .i64 a, .int .i64 b, .int .i64 ser, .slice x l.length cap] 25)).heap.size ⟨0, 0, 0, 0, 0⟩ (.slice none 0 0) := Box.new _ _ _
  rw [asz] at hy
  have HY := Lib.hid hy
  clear hy hx
  by_cases c : E = 0
  · subst c
    obtain ⟨⟨_, _, _, _, _, _, s1, s2⟩, hk, _⟩ := HE.out rfl
    simp only at s1 s2
    have hlen := ((chkS_ok l).1 hk).1
    have HC2 := Lib.hid (C2.out (by omega))
    clear hk C2
    rw [if_pos (show (0 : Int) = 0 from rfl)]
    by_cases c9 : ser = 999
    · subst c9
      rw [if_pos rfl, if_neg (by decide), if_neg (by decide)]
      go_enter Tryd.func21, Tryd.ntmps21
      go_wp2_with fail
      refine (C1.out _ (by first | exact HA.out | exact bn HA.out _)).mono ?_
      rintro en w2 ⟨rfl, b2⟩
      have HB := Lib.hid (bt HA.out b2)
      have hx := HX.out.next b2
      have hy := HY.out.next b2
      have hlt := hy.lt
      have hlt0 := hx.lt
      have k0 := hx.cell 0; have k1 := hx.cell 1; have k2 := hx.cell 2; have k3 := hx.cell 3; have k4 := hx.cell 4; have k5 := hx.cell 5
      simp only [List.getElem?_cons_zero, List.getElem?_cons_succ] at k0 k1 k2 k3 k4 k5
      have z0 := hy.cell 0; have z1 := hy.cell 1; have z2 := hy.cell 2; have z3 := hy.cell 3; have z4 := hy.cell 4; have z5 := hy.cell 5
      simp only [List.getElem?_cons_zero, List.getElem?_cons_succ] at z0 z1 z2 z3 z4 z5
      have f0 := hy.froz 0; have f1 := hy.froz 1; have f2 := hy.froz 2; have f3 := hy.froz 3; have f4 := hy.froz 4; have f5 := hy.froz 5
      have HY2 := Lib.hid hy
      clear b2 hx hy HX HA HY C1 HC2
      go_wp2
      have P := Pb.put HY2.out ⟨0, 0, 0, 0, 0⟩ (.slice none 0 0)
      have Q := below6 HB.out (b := w.heap.size + 1) (by omega) (.int .i64 0) (.int .i64 0) (.int .i64 0) (.int .i64 0) (.int .i64 0) ((.slice none 0 0))
      generalize (((((w2.setCell ⟨w.heap.size + 1, 0, none⟩ (.int .i64 0)).setCell ⟨w.heap.size + 1, 1, none⟩ (.int .i64 0)).setCell ⟨w.heap.size + 1, 2, none⟩ (.int .i64 0)).setCell ⟨w.heap.size + 1, 3, none⟩ (.int .i64 0)).setCell ⟨w.heap.size + 1, 4, none⟩ (.int .i64 0)).setCell ⟨w.heap.size + 1, 5, none⟩ ((.slice none 0 0)) = W2 at P Q ⊢
      have y0 := P.cell 0; have y1 := P.cell 1; have y2 := P.cell 2; have y3 := P.cell 3; have y4 := P.cell 4; have y5 := P.cell 5
      simp only [List.getElem?_cons_zero, List.getElem?_cons_succ] at y0 y1 y2 y3 y4 y5
      refine bodyPost_ret (v := .tuple #[aP ⟨0, 0, 0, 0, 0⟩ (.slice none 0 0), .int .i64 2]) (by simp [results, Tryd.results21, go_sem, y0, y1, y2, y3, y4, y5]) rfl ⟨_, rfl, rd_nil _, fun _ _ _ => off_nil _, Q⟩
    · rw [if_neg c9, if_pos rfl, if_pos rfl]
      have h9 : (ser == 999) = false := by simpa using c9
      go_enter Tryd.func21, Tryd.ntmps21
      go_wp2_with fail
      refine (C1.out _ (by first | exact HA.out | exact bn HA.out _)).mono ?_
      rintro en w2 ⟨rfl, b2⟩
      have HB := Lib.hid (bt HA.out b2)
      have hx := HX.out.next b2
      have hy := HY.out.next b2
      have hlt := hy.lt
      have hlt0 := hx.lt
      have k0 := hx.cell 0; have k1 := hx.cell 1; have k2 := hx.cell 2; have k3 := hx.cell 3; have k4 := hx.cell 4; have k5 := hx.cell 5
      simp only [List.getElem?_cons_zero, List.getElem?_cons_succ] at k0 k1 k2 k3 k4 k5
      have HY2 := Lib.hid hy
      have HX2 := Lib.hid hx
      clear b2 hx hy HX HA HY C1
      go_wp2_with fail
      refine (HC2.out _ HB.out).mono ?_
      rintro en w3 ⟨v3, rfl, hv3, ho3, b3⟩
      have HO3 := Lib.hid (fun b (hb : b < w.heap.size + 2) => ho3 b (by omega))
      have HB3 := Lib.hid (bt HB.out b3)
      have hx := HX2.out.next b3
      have hy := HY2.out.next b3
      have hlt1 := hy.lt
      have HV3 := Lib.hid hv3
      obtain ⟨x3, cap3, rfl, _, _, _⟩ := hv3
      clear ho3 k0 k1 k2 k3 k4 k5
      have k0 := hx.cell 0; have k1 := hx.cell 1; have k2 := hx.cell 2; have k3 := hx.cell 3; have k4 := hx.cell 4; have k5 := hx.cell 5
      simp only [List.getElem?_cons_zero, List.getElem?_cons_succ] at k0 k1 k2 k3 k4 k5
      have f0 := hx.froz 0; have f1 := hx.froz 1; have f2 := hx.froz 2; have f3 := hx.froz 3; have f4 := hx.froz 4; have f5 := hx.froz 5
      have HX4 := Lib.hid (Pb.put hx ⟨id, born, a, b, ser⟩ (.slice x3 l.length cap3))
      have HB4 := Lib.hid (below6 HB3.out (b := w.heap.size) (by omega) (.int .i64 id) (.int .i64 born) (.int .i64 a) (.int .i64 b) (.int .i64 ser) ((.slice x3 l.length cap3)))
      have HV4 := Lib.hid (rd_put6 (b := w.heap.size) HV3.out (HO3.out _ (by omega)) (.int .i64 id) (.int .i64 born) (.int .i64 a) (.int .i64 b) (.int .i64 ser) ((.slice x3 l.length cap3)))
      have HY4 := Lib.hid (Bx.others (b' := w.heap.size) hy (by omega) (.int .i64 id) (.int .i64 born) (.int .i64 a) (.int .i64 b) (.int .i64 ser) ((.slice x3 l.length cap3)))
      clear b3 hx hy HX2 HY2 HB3 HV3 HC2
      go_upto_region 7 with (fail)
      generalize (((((w3.setCell ⟨w.heap.size, 0, none⟩ (.int .i64 id)).setCell ⟨w.heap.size, 1, none⟩ (.int .i64 born)).setCell ⟨w.heap.size, 2, none⟩ (.int .i64 a)).setCell ⟨w.heap.size, 3, none⟩ (.int .i64 b)).setCell ⟨w.heap.size, 4, none⟩ (.int .i64 ser)).setCell ⟨w.heap.size, 5, none⟩ ((.slice x3 l.length cap3)) = W4 at HX4 HB4 HV4 HY4 ⊢
      clear k0 k1 k2 k3 k4 k5 f0 f1 f2 f3 f4 f5
      have hx := HX4.out
      have hy := HY4.out
      have hlt2 := hy.lt
      have hlt3 := hx.lt
      try simp only at hx
      have k0 := hx.cell 0; have k1 := hx.cell 1; have k2 := hx.cell 2; have k3 := hx.cell 3; have k4 := hx.cell 4; have k5 := hx.cell 5
      simp only [List.getElem?_cons_zero, List.getElem?_cons_succ] at k0 k1 k2 k3 k4 k5
      have f0 := hx.froz 0; have f1 := hx.froz 1; have f2 := hx.froz 2; have f3 := hx.froz 3; have f4 := hx.froz 4; have f5 := hx.froz 5
      have HX5 := Lib.hid (hx.set 4 (.int .i64 (ser + 1)))
      have HB5 := Lib.hid (HB4.out.setCell (p := ⟨w.heap.size, 4, none⟩) (Nat.le_refl _) (.int .i64 (ser + 1)))
      have HV5 := Lib.hid (rd_put (b := w.heap.size) HV4.out (HO3.out _ (by omega)) 4 (.int .i64 (ser + 1)))
      have HY5 := Lib.hid (hy.other w.heap.size 4 (.int .i64 (ser + 1)) (by omega))
      clear hx hy HX4 HB4 HV4 HY4
      go_upto_region 8 with (fail)
      generalize W4.setCell ⟨w.heap.size, 4, none⟩ (.int .i64 (ser + 1)) = W5 at HX5 HB5 HV5 HY5 ⊢
      clear k0 k1 k2 k3 k4 k5 f0 f1 f2 f3 f4 f5 hlt2 hlt3
      have hx := HX5.out
      have hy := HY5.out
      have hlt2 := hy.lt
      simp only [List.set_cons_zero, List.set_cons_succ] at hx
      have k0 := hx.cell 0; have k1 := hx.cell 1; have k2 := hx.cell 2; have k3 := hx.cell 3; have k4 := hx.cell 4; have k5 := hx.cell 5
      simp only [List.getElem?_cons_zero, List.getElem?_cons_succ] at k0 k1 k2 k3 k4 k5
      have z0 := hy.cell 0; have z1 := hy.cell 1; have z2 := hy.cell 2; have z3 := hy.cell 3; have z4 := hy.cell 4; have z5 := hy.cell 5
      simp only [List.getElem?_cons_zero, List.getElem?_cons_succ] at z0 z1 z2 z3 z4 z5
      have f0 := hy.froz 0; have f1 := hy.froz 1; have f2 := hy.froz 2; have f3 := hy.froz 3; have f4 := hy.froz 4; have f5 := hy.froz 5
      clear hx hy HX5
      go_wp2
      have P := Pb.put HY5.out ⟨id, born, a, b, ser + 1⟩ (.slice x3 l.length cap3)
      have Q := below6 HB5.out (b := w.heap.size + 1) (by omega) (.int .i64 id) (.int .i64 born) (.int .i64 a) (.int .i64 b) (.int .i64 (ser + 1)) ((.slice x3 l.length cap3))
      have R := rd_put6 (b := w.heap.size + 1) HV5.out (HO3.out _ (by omega)) (.int .i64 id) (.int .i64 born) (.int .i64 a) (.int .i64 b) (.int .i64 (ser + 1)) ((.slice x3 l.length cap3))
      generalize (((((W5.setCell ⟨w.heap.size + 1, 0, none⟩ (.int .i64 id)).setCell ⟨w.heap.size + 1, 1, none⟩ (.int .i64 born)).setCell ⟨w.heap.size + 1, 2, none⟩ (.int .i64 a)).setCell ⟨w.heap.size + 1, 3, none⟩ (.int .i64 b)).setCell ⟨w.heap.size + 1, 4, none⟩ (.int .i64 (ser + 1))).setCell ⟨w.heap.size + 1, 5, none⟩ ((.slice x3 l.length cap3)) = W2 at P Q R ⊢
      have y0 := P.cell 0; have y1 := P.cell 1; have y2 := P.cell 2; have y3 := P.cell 3; have y4 := P.cell 4; have y5 := P.cell 5
      simp only [List.getElem?_cons_zero, List.getElem?_cons_succ] at y0 y1 y2 y3 y4 y5
      refine bodyPost_ret (v := .tuple #[aP ⟨id, born, a, b, ser + 1⟩ (.slice x3 l.length cap3), .int .i64 0]) (by simp [results, Tryd.results21, go_sem, y0, y1, y2, y3, y4, y5]) rfl ⟨_, rfl, R, fun b hb _ => HO3.out b (by omega), Q⟩
  · rw [if_neg c, if_neg c, if_neg c]
    have hz : (E == 0) = false := by simpa using c
    go_enter Tryd.func21, Tryd.ntmps21
    go_wp2_with fail
    refine (C1.out _ (by first | exact HA.out | exact bn HA.out _)).mono ?_
    rintro en w2 ⟨rfl, b2⟩
    have HB := Lib.hid (bt HA.out b2)
    have hx := HX.out.next b2
    have hy := HY.out.next b2
    have hlt := hy.lt
    have hlt0 := hx.lt
    have k0 := hx.cell 0; have k1 := hx.cell 1; have k2 := hx.cell 2; have k3 := hx.cell 3; have k4 := hx.cell 4; have k5 := hx.cell 5
    simp only [List.getElem?_cons_zero, List.getElem?_cons_succ] at k0 k1 k2 k3 k4 k5
    have z0 := hy.cell 0; have z1 := hy.cell 1; have z2 := hy.cell 2; have z3 := hy.cell 3; have z4 := hy.cell 4; have z5 := hy.cell 5
    simp only [List.getElem?_cons_zero, List.getElem?_cons_succ] at z0 z1 z2 z3 z4 z5
    have f0 := hy.froz 0; have f1 := hy.froz 1; have f2 := hy.froz 2; have f3 := hy.froz 3; have f4 := hy.froz 4; have f5 := hy.froz 5
    have HY2 := Lib.hid hy
    clear b2 hx hy HX HA HY C1 C2
    go_wp2
    have P := Pb.put HY2.out ⟨0, 0, 0, 0, 0⟩ (.slice none 0 0)
    have Q := below6 HB.out (b := w.heap.size + 1) (by omega) (.int .i64 0) (.int .i64 0) (.int .i64 0) (.int .i64 0) (.int .i64 0) ((.slice none 0 0))
    generalize (((((w2.setCell ⟨w.heap.size + 1, 0, none⟩ (.int .i64 0)).setCell ⟨w.heap.size + 1, 1, none⟩ (.int .i64 0)).setCell ⟨w.heap.size + 1, 2, none⟩ (.int .i64 0)).setCell ⟨w.heap.size + 1, 3, none⟩ (.int .i64 0)).setCell ⟨w.heap.size + 1, 4, none⟩ (.int .i64 0)).setCell ⟨w.heap.size + 1, 5, none⟩ ((.slice none 0 0)) = W2 at P Q ⊢
    have y0 := P.cell 0; have y1 := P.cell 1; have y2 := P.cell 2; have y3 := P.cell 3; have y4 := P.cell 4; have y5 := P.cell 5
    simp only [List.getElem?_cons_zero, List.getElem?_cons_succ] at y0 y1 y2 y3 y4 y5
    refine bodyPost_ret (v := .tuple #[aP ⟨0, 0, 0, 0, 0⟩ (.slice none 0 0), .int .i64 E]) (by simp [results, Tryd.results21, go_sem, y0, y1, y2, y3, y4, y5]) rfl ⟨_, rfl, rd_nil _, fun _ _ _ => off_nil _, Q⟩
end Pa
end Go.Proofs.YtdfdjampodkpgaaDoor
/- Passes: a pass is renewed. (gen_pass3.py) -/
set_option linter.unusedVariables false
namespace Go.Proofs.YtdfdjampodkpgaaDoor
open Go.RowKit
namespace Pa
open Dt Sn
def frm (l : List Sp) (n : Int) : Int := max n (endD l)
end Pa
end Go.Proofs.YtdfdjampodkpgaaDoor
end

/-! PassPlain2 -/
section
/- Passes: the document's: are two one, has one a day, a new one, one replaced. (gen_pass3.py) -/
set_option linter.unusedSimpArgs false
set_option linter.unusedVariables false
namespace Go.Proofs.YtdfdjampodkpgaaDoor
open Go.RowKit
namespace Pa
open Dt Sn
def hasP (p : Ps) (l : List Sp) (n z : Int) : Bool := decide (p.a ≤ z) && (decide (z ≤ p.b) && has l n)
set_option maxRecDepth 100000 in
set_option maxHeartbeats 500000 in
theorem hasR_any (p : Ps) (d : Value) (l : List Sp) (n z : Int) (w : World) (h : RdE elS w d l) : Calls Tryd.prog 41 #[aP p d, .int .i64 n, .int .i64 z] w (BoolQ (hasP p l n z) w) := by
  have C1 := Lib.hid (fun w' (hb : Below w.heap.size w w') => hasDay_any d l n w' (h.below hb))
  obtain ⟨id, born, a, b, ser⟩ := p
  obtain ⟨x, cap, rfl, _, _, _⟩ := h
  have HA := Lib.hid ((br w).alloc (Nat.le_refl _) (.cells #[.int .i64 id, .int .i64 born, .int .i64 a, .int .i64 b, .int .i64 ser, .slice x l.length cap] 25))
  by_cases c1 : a ≤ z
  · by_cases c2 : z ≤ b
    · have hr : hasP ⟨id, born, a, b, ser⟩ l n z = has l n := by unfold hasP; rw [decide_eq_true c1, decide_eq_true c2]; rfl
      rw [hr]
      clear hr
      go_enter Tryd.func41, Tryd.ntmps41
      go_wp2_with (first | (go_at_call 42; (with_reducible refine (C1.out _ (by first | exact HA.out | exact bn HA.out _)).mono ?_); rintro en w3 ⟨rfl, rfl⟩))
      go_ret
      exact ⟨rfl, by first | exact HA.out | exact bn HA.out _⟩
    · have hr : hasP ⟨id, born, a, b, ser⟩ l n z = false := by unfold hasP; rw [decide_eq_true c1, decide_eq_false c2]; rfl
      rw [hr]
      clear hr
      go_enter Tryd.func41, Tryd.ntmps41
      go_wp2
      go_ret
      exact ⟨rfl, by first | exact HA.out | exact bn HA.out _⟩
  · have hr : hasP ⟨id, born, a, b, ser⟩ l n z = false := by unfold hasP; rw [decide_eq_false c1]; rfl
    rw [hr]
    clear hr
    go_enter Tryd.func41, Tryd.ntmps41
    go_wp2
    go_ret
    exact ⟨rfl, by first | exact HA.out | exact bn HA.out _⟩
end Pa
end Go.Proofs.YtdfdjampodkpgaaDoor
/- Passes: the document's: where one ends; one replaced. (gen_pass3.py) -/
set_option linter.unusedVariables false
namespace Go.Proofs.YtdfdjampodkpgaaDoor
open Go.RowKit
namespace Pa
open Dt Sn
def endK (l : List Sp) (k : Nat) : Int := if h : 0 < k ∧ k ≤ l.length then (l[k - 1]'(by omega)).2 else 0
theorem endK_end (l : List Sp) : endK l l.length = endD l := by
  unfold endK endD
  by_cases h : 0 < l.length
  · rw [dif_pos ⟨h, Nat.le_refl _⟩, dif_pos h]
  · rw [dif_neg (fun x => h x.1), dif_neg h]
theorem endK_succ (l : List Sp) (k : Nat) (h : k < l.length) : endK l (k + 1) = l[k].2 := by
  unfold endK
  rw [dif_pos ⟨by omega, by omega⟩]
  rfl
end Pa
end Go.Proofs.YtdfdjampodkpgaaDoor
/- Passes: the document's: one renewed. (gen_pass3.py) -/
set_option linter.unusedVariables false
namespace Go.Proofs.YtdfdjampodkpgaaDoor
open Go.RowKit
namespace Pa
open Dt Sn
theorem nth_one {u N s T : Int} (h : nthF u N s 1 = (T, 0)) : 1 ≤ s ∧ s < T ∧ T ≤ 3652059 := by
  rcases nth_cases u N s 1 with ⟨c, hc, h0⟩ | ⟨⟨_, _, n1, _⟩, ⟨s1, s2, _, _⟩, hle, he⟩
  · rw [hc] at h; injection h with _ h; exact absurd h h0
  · rw [he] at h; injection h with h _
    have := rawT_lt (u := u) (N := N) (k := 0) (j := 1) (Int.le_refl s) s1 s2 n1 (by omega) (by omega) hle
    rw [rawT_zero s1 s2] at this
    exact ⟨s1, by omega, by omega⟩
end Pa
end Go.Proofs.YtdfdjampodkpgaaDoor
/- Passes: plain law: a renewal's days. -/
set_option linter.unusedVariables false
namespace Go.Proofs.YtdfdjampodkpgaaDoor
open Go.RowKit
namespace Pa
open Dt Sn
theorem has_end {l : List Sp} (hc : Canon l) {n : Int} (h : has l n = true) : n < endD l := by
  unfold has at h
  obtain ⟨s, hs, hi⟩ := List.any_eq_true.1 h
  have h0 : 0 < l.length := List.length_pos_of_mem hs
  have h1 := canon_last hc (by omega) s hs
  unfold endD
  rw [dif_pos h0]
  simp at hi
  omega
theorem endD_le {l : List Sp} (hi : inS3 l) : 0 ≤ endD l ∨ 0 < l.length := by
  unfold endD
  by_cases h : 0 < l.length
  · exact .inr h
  · rw [dif_neg h]; exact .inl (Int.le_refl _)
end Pa
end Go.Proofs.YtdfdjampodkpgaaDoor
/- Passes: plain law: a pass that is cut, span by span. -/
set_option linter.unusedVariables false
namespace Go.Proofs.YtdfdjampodkpgaaDoor
open Go.RowKit
namespace Pa
open Dt Sn
/-- the days ahead of n, span by span -/
def cutL (n : Int) : List Sp → List Sp
  | [] => []
  | s :: l => if s.1 < min s.2 n then (s.1, min s.2 n) :: cutL n l else cutL n l
theorem has_cons (s : Sp) (l : List Sp) (k : Int) : has (s :: l) k = ((decide (s.1 ≤ k) && decide (k < s.2)) || has l k) := by
  unfold has; rw [List.any_cons]
theorem cutL_has (n k : Int) : ∀ l : List Sp, has (cutL n l) k = (has l k && decide (k < n))
  | [] => rfl
  | s :: l => by
    rw [cutL, has_cons s l]
    have ih := cutL_has n k l
    rw [Int.min_def]
    by_cases c : s.2 ≤ n
    · rw [if_pos c]
      by_cases c2 : s.1 < s.2
      · rw [if_pos c2, has_cons, ih]
        by_cases c3 : k < n
        · simp [c3]
        · have : ¬ k < s.2 := by omega
          simp [c3, this]
      · rw [if_neg c2, ih]
        have : (decide (s.1 ≤ k) && decide (k < s.2)) = false := by
          by_cases c3 : s.1 ≤ k
          · rw [decide_eq_false (show ¬ k < s.2 by omega), Bool.and_false]
          · rw [decide_eq_false c3, Bool.false_and]
        rw [this, Bool.false_or]
    · rw [if_neg c]
      by_cases c2 : s.1 < n
      · rw [if_pos c2, has_cons, ih]
        by_cases c3 : k < n
        · have : k < s.2 := by omega
          simp [c3, this]
        · simp [c3]
      · rw [if_neg c2, ih]
        by_cases c3 : k < n
        · have : ¬ s.1 ≤ k := by omega
          simp [this]
        · simp [c3]
theorem cutL_sub (n : Int) : ∀ (l : List Sp), ∀ t ∈ cutL n l, ∃ s ∈ l, t.1 = s.1 ∧ t.2 ≤ s.2 ∧ t.2 ≤ n ∧ t.1 < t.2
  | [], t, ht => by cases ht
  | s :: l, t, ht => by
    rw [cutL] at ht
    have hr : t ∈ cutL n l → ∃ s' ∈ s :: l, t.1 = s'.1 ∧ t.2 ≤ s'.2 ∧ t.2 ≤ n ∧ t.1 < t.2 := fun h => by
      obtain ⟨u, hu, h1⟩ := cutL_sub n l t h
      exact ⟨u, by simp [hu], h1⟩
    split at ht
    · rcases List.mem_cons.1 ht with rfl | ht
      · refine ⟨s, by simp, rfl, ?_, ?_, by assumption⟩
        · show min s.2 n ≤ s.2; omega
        · show min s.2 n ≤ n; omega
      · exact hr ht
    · exact hr ht
theorem canon_mk {s : Sp} {l : List Sp} (h1 : s.1 < s.2) (h2 : Canon l) (h3 : ∀ t ∈ l, s.2 < t.1) : Canon (s :: l) := by
  cases l with
  | nil => exact h1
  | cons t l => exact ⟨h1, h3 t (by simp), h2⟩
theorem cutL_canon (n : Int) : ∀ {l : List Sp}, Canon l → Canon (cutL n l)
  | [], _ => trivial
  | s :: l, h => by
    rw [cutL]
    have ih := cutL_canon n (canon_tail h)
    split
    · refine canon_mk (by assumption) ih fun t ht => ?_
      obtain ⟨u, hu, e1, _⟩ := cutL_sub n l t ht
      have := canon_from h u hu
      show min s.2 n < t.1
      omega
    · exact ih
theorem cutL_len (n : Int) : ∀ l : List Sp, (cutL n l).length ≤ l.length
  | [] => Nat.le_refl _
  | s :: l => by
    rw [cutL]
    have := cutL_len n l
    split <;> simp <;> omega
theorem cutL_days (n : Int) : ∀ l : List Sp, (∀ s ∈ l, s.1 ≤ s.2) → days (cutL n l) ≤ days l
  | [], _ => Int.le_refl _
  | s :: l, h => by
    rw [cutL, days]
    have ih := cutL_days n l (fun t ht => h t (by simp [ht]))
    have := h s (by simp)
    split
    · rw [days]; show (min s.2 n - s.1) + _ ≤ _; omega
    · omega
theorem cutL_inS3 (n : Int) {l : List Sp} (h : inS3 l) : inS3 (cutL n l) := fun t ht => by
  obtain ⟨s, hs, e1, e2, _⟩ := cutL_sub n l t ht
  have := h s hs
  exact ⟨by omega, by omega⟩
theorem cutL_chk (n : Int) {l : List Sp} (h : chkS l = 0) (h3 : inS3 l) : chkS (cutL n l) = 0 := by
  obtain ⟨h1, h2, hc⟩ := (chkS_ok l).1 h
  refine (chkS_ok _).2 ⟨by have := cutL_len n l; omega, fun t ht => ?_, cutL_canon n hc⟩
  obtain ⟨s, hs, e1, e2, e3, e4⟩ := cutL_sub n l t ht
  have := h3 s hs
  unfold isN
  omega
theorem has_le {l : List Sp} (h : inS3 l) {k : Int} (hk : has l k = true) : 1 ≤ k ∧ k < 3652060 := by
  unfold has at hk
  obtain ⟨s, hs, hi⟩ := List.any_eq_true.1 hk
  have := h s hs
  simp at hi
  omega
theorem isD_iff {n : Int} : isD n = true ↔ 1 ≤ n ∧ n ≤ 3652059 := by unfold isD; rw [decide_eq_true_iff]
/-- a cut: what it makes -/
def cutG (p : Ps) (l : List Sp) (n : Int) : R3 := if passE p l = 0 then (if isD n = false then ((p0, []), 0, 3) else ((p, cutL n l), days l - days (cutL n l), 0)) else ((p0, []), 0, passE p l)
theorem cut_no {p : Ps} {l : List Sp} {n : Int} (h : (cutG p l n).2.2 ≠ 0) : cutG p l n = ((p0, []), 0, (cutG p l n).2.2) := by
  unfold cutG at h ⊢
  by_cases c : passE p l = 0
  · rw [if_pos c] at h ⊢
    cases hD : isD n with
    | false => rfl
    | true => rw [hD, if_neg (show ¬ (true = false) by decide)] at h; exact absurd rfl h
  · rw [if_neg c]
theorem hasB_ok {l : List Sp} (h : chkS l = 0) (k : Int) : hasB l k = has l k := by unfold hasB; rw [if_pos h]
theorem cut_has {p : Ps} {l : List Sp} {n : Int} (h1 : passE p l = 0) (h2 : passE p (cutL n l) = 0) (k z : Int) : rawB p (cutL n l) k z = (rawB p l k z && decide (k < n)) := by
  unfold rawB
  rw [hasB_ok (passE_ok.1 h1).2.1, hasB_ok (passE_ok.1 h2).2.1, cutL_has]
  cases has l k <;> cases decide (k < n) <;> simp
end Pa
end Go.Proofs.YtdfdjampodkpgaaDoor
end
