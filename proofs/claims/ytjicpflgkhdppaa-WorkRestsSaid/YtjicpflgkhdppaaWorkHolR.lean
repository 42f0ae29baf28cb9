/- Days of work: holidays, in the document. -/
import Derived.Test.YtjicpflgkhdppaaWorkDayR
import Derived.Deep.RegionHeld3
set_option linter.unusedSimpArgs false
set_option linter.unusedVariables false
namespace Go.Proofs.Ytjicpflgkhdppaa
open Go.RowKit
namespace Wk
open Dt
def anyN (rest : List Bool) (y n : Int) (l : List Rl) : Bool := l.any (fun r => decide (ruleN rest r y = n))
theorem isHol_any (rest : List Bool) (rules : List Rl) (y n : Int) (hy : 1 ≤ y) (hn : n ≠ 0) : isHol rest rules y n = anyN rest y n rules := by
  unfold isHol anyN days
  rw [decide_eq_true hy, Bool.true_and, Bool.eq_iff_iff]
  simp only [List.contains_iff_mem, List.mem_filterMap, List.any_eq_true, decide_eq_true_eq]
  constructor
  · rintro ⟨r, h1, h2⟩
    exact ⟨r, h1, by unfold ruleN; rw [h2]; rfl⟩
  · rintro ⟨r, h1, h2⟩
    refine ⟨r, h1, ?_⟩
    unfold ruleN at h2
    cases h : ruleD rest r y with
    | none => rw [h] at h2; exact absurd h2.symm hn
    | some k => rw [h] at h2; simp at h2; rw [h2]
theorem anyN_at (rest : List Bool) (y n : Int) (l : List Rl) (k : Nat) (h : k < l.length) : anyN rest y n (l.drop k) = (decide (ruleN rest l[k] y = n) || anyN rest y n (l.drop (k + 1))) := by
  rw [List.drop_eq_getElem_cons h]; rfl
theorem anyN_end (rest : List Bool) (y n : Int) (l : List Rl) (k : Nat) (h : l.length ≤ k) : anyN rest y n (l.drop k) = false := by
  rw [List.drop_eq_nil_of_le h]; rfl
set_option maxRecDepth 100000 in
set_option maxHeartbeats 4000000 in
theorem isHolR_0 (rest : List Bool) (hr : rest.length = 7) (v : Value) (rules : List Rl) (y n : Int) (w : World) (h : RdE elRl w v rules) (hy : y < 1) : Calls Try.prog 39 #[cV rest v, .int .i64 y, .int .i64 n] w (RetB (.bool false) w) := by
  have hle := h.len_le
  obtain ⟨a, cap, rfl, g1, g2, g3⟩ := h
  obtain ⟨b0, b1, b2, b3, b4, b5, b6, rfl⟩ := len7 hr
  have HX := Lib.hid (Box.new w 25 (calB b0 b1 b2 b3 b4 b5 b6 (.slice a rules.length cap)))
  have HB0 := Lib.hid ((br w).alloc (Nat.le_refl _) (calO b0 b1 b2 b3 b4 b5 b6 (.slice a rules.length cap)))
  show Calls Try.prog 39 #[.agg #[.bool b0, .bool b1, .bool b2, .bool b3, .bool b4, .bool b5, .bool b6, .slice a rules.length cap], _, _] w _
  clear g3 hr
  have hyy : decide (1 ≤ y) = false := decide_eq_false (by omega)
  go_enter Try.func39, Try.ntmps39
  go_wp2
  go_loopw [7] (fun i wr => ∃ k : Nat, k ≤ rules.length ∧ i = .int .i64 k ∧ Below w.heap.size w wr ∧ Box wr w.heap.size 25 (calB b0 b1 b2 b3 b4 b5 b6 (.slice a rules.length cap))) (fun i _ => rules.length - (intOf i).toNat)
  case atStart => exact ⟨0, Nat.zero_le _, rfl, HB0.out, HX.out⟩
  case round =>
    obtain ⟨k, hk, rfl, hbw, hbx⟩ := hrel
    have HBW := Lib.hid hbw; have HBX := Lib.hid hbx
    have c7 := hbx.cell 7
    simp only [List.getElem?_cons_zero, List.getElem?_cons_succ] at c7
    clear hbw hbx
    by_cases hlt : k < rules.length
    · have i1 : (k : Int) < (rules.length : Int) := by omega
      go_wp2_with fail
      go_quiet (fail)
      go_wp2
      go_roundw
      case rel => exact ⟨k + 1, by omega, by first | rfl | go_num, bn HBW.out _, HBX.out.dr _⟩
      case measure => simp [intOf]; omega
    · have i1 : ¬ (k : Int) < (rules.length : Int) := by omega
      go_wp2
      go_ret
      exact ⟨rfl, HBW.out⟩
set_option maxRecDepth 100000 in
set_option maxHeartbeats 4000000 in
theorem isHolR_1 (rest : List Bool) (hr : rest.length = 7) (hf : rest.all id = false) (v : Value) (rules : List Rl) (hE : rulesE rules = 0) (y n : Int) (w : World) (h : RdE elRl w v rules) (hy1 : 1 ≤ y) (hy2 : y ≤ 9999) : Calls Try.prog 39 #[cV rest v, .int .i64 y, .int .i64 n] w (RetB (.bool (anyN rest y n rules)) w) := by
  have HRD := Lib.hid h
  have hle := h.len_le
  have HD := Lib.hid (fun (k : Nat) (hk : k < rules.length) w' (hb : Below w.heap.size w w') => dayR_any rest hr hf v rules rules[k] y (rulesE_all rules hE _ (List.getElem_mem hk)) w' (HRD.out.below hb) hy1 hy2)
  have HA := Lib.hid (anyN_at rest y n rules)
  have HAE := Lib.hid (anyN_end rest y n rules)
  obtain ⟨Z, hZ⟩ : ∃ Z, anyN rest y n rules = Z := ⟨_, rfl⟩
  have HZ : RowKit.Hid (anyN rest y n (rules.drop 0) = Z) := Lib.hid (by simpa using hZ)
  rw [hZ]
  obtain ⟨a, cap, rfl, g1, g2, g3⟩ := h
  have H3 := Lib.hid g3
  obtain ⟨b0, b1, b2, b3, b4, b5, b6, hbs⟩ := len7 hr
  have hcv : cV rest (.slice a rules.length cap) = .agg #[.bool b0, .bool b1, .bool b2, .bool b3, .bool b4, .bool b5, .bool b6, .slice a rules.length cap] := by rw [hbs]; rfl
  have HX := Lib.hid (Box.new w 25 (calB b0 b1 b2 b3 b4 b5 b6 (.slice a rules.length cap)))
  have HB0 := Lib.hid ((br w).alloc (Nat.le_refl _) (calO b0 b1 b2 b3 b4 b5 b6 (.slice a rules.length cap)))
  rw [hcv] at HD ⊢
  clear g3 hr hZ hcv hbs hE hf
  have hyy : decide (1 ≤ y) = true := decide_eq_true hy1
  unfold RetB at HD
  go_enter Try.func39, Try.ntmps39
  go_wp2
  go_loopw [7] (fun i wr => ∃ k : Nat, k ≤ rules.length ∧ i = .int .i64 k ∧ anyN rest y n (rules.drop k) = Z ∧ Below w.heap.size w wr ∧ Box wr w.heap.size 25 (calB b0 b1 b2 b3 b4 b5 b6 (.slice a rules.length cap))) (fun i _ => rules.length - (intOf i).toNat)
  case atStart => exact ⟨0, Nat.zero_le _, rfl, HZ.out, HB0.out, HX.out⟩
  case round =>
    obtain ⟨k, hk, rfl, hz, hbw, hbx⟩ := hrel
    have HBW := Lib.hid hbw; have HBX := Lib.hid hbx
    have c0 := hbx.cell 0; have c1 := hbx.cell 1; have c2 := hbx.cell 2; have c3 := hbx.cell 3; have c4 := hbx.cell 4; have c5 := hbx.cell 5; have c6 := hbx.cell 6; have c7 := hbx.cell 7
    simp only [List.getElem?_cons_zero, List.getElem?_cons_succ] at c0 c1 c2 c3 c4 c5 c6 c7
    clear hbx HZ HX HB0
    by_cases hlt : k < rules.length
    · obtain ⟨g, off, rfl, hbl, hc⟩ := H3.out (by omega)
      obtain ⟨q0, q1, q2, q3⟩ := eRl_at hc k hlt
      have d0 := (hbw.cell (p := ⟨g, off + k * 4, none⟩) hbl).trans q0
      have d1 := (hbw.cell (p := ⟨g, off + k * 4 + 1, none⟩) hbl).trans q1
      have d2 := (hbw.cell (p := ⟨g, off + k * 4 + 2, none⟩) hbl).trans q2
      have d3 := (hbw.cell (p := ⟨g, off + k * 4 + 3, none⟩) hbl).trans q3
      have i1 : (k : Int) < (rules.length : Int) := by omega
      have i0 : (0 : Int) ≤ (k : Int) := by omega
      rw [HA.out k hlt] at hz
      have HDK := Lib.hid (fun w' (hb : Below wr.heap.size wr w') => HD.out k hlt w' (hbw.trans (hb.mono hbw.size)))
      clear hc q0 q1 q2 q3 hbw H3 HD HA HAE HRD
      obtain ⟨r, hr'⟩ : ∃ r, rules[k] = r := ⟨_, rfl⟩
      rw [hr'] at d0 d1 d2 d3 HDK hz
      clear hr'
      obtain ⟨F, hF⟩ : ∃ F, ruleN rest r y = F := ⟨_, rfl⟩
      rw [hF] at HDK hz
      clear hF
      obtain ⟨r0, r1, r2, r3⟩ := r
      simp only at d0 d1 d2 d3 HDK
      by_cases cn : F = n
      · subst cn
        have hZZ : Z = true := by rw [← hz]; simp
        subst hZZ
        clear hz
        go_wp2_with fail
        go_region_held3 (fun w' => w'.cell? ⟨w.heap.size, 0, none⟩ = some (.bool b0) ∧ w'.cell? ⟨w.heap.size, 1, none⟩ = some (.bool b1) ∧ w'.cell? ⟨w.heap.size, 2, none⟩ = some (.bool b2) ∧ w'.cell? ⟨w.heap.size, 3, none⟩ = some (.bool b3) ∧ w'.cell? ⟨w.heap.size, 4, none⟩ = some (.bool b4) ∧ w'.cell? ⟨w.heap.size, 5, none⟩ = some (.bool b5) ∧ w'.cell? ⟨w.heap.size, 6, none⟩ = some (.bool b6) ∧ w'.cell? ⟨w.heap.size, 7, none⟩ = some (.slice (some ⟨g, off, none⟩) rules.length cap) ∧ w'.cell? ⟨g, off + k * 4, none⟩ = some (.int .i64 r0) ∧ w'.cell? ⟨g, off + k * 4 + 1, none⟩ = some (.int .i64 r1) ∧ w'.cell? ⟨g, off + k * 4 + 2, none⟩ = some (.int .i64 r2) ∧ w'.cell? ⟨g, off + k * 4 + 3, none⟩ = some (.int .i64 r3))
          (first | go_keep | (go_split_ands; (repeat' apply And.intro) <;> first | assumption | exact kp hbb (by assumption)) | fail)
          (first
            | (go_at_call 64; refine (HDK.out _ (bn (br _) _)).mono ?_; rintro en wb ⟨rfl, hbb⟩)
            | fail)
        go_wp2
        go_ret
        exact ⟨rfl, bd HBW.out hbb⟩
      · have hz2 : anyN rest y n (rules.drop (k + 1)) = Z := by rw [← hz, decide_eq_false cn]; rfl
        have HZ2 := Lib.hid hz2
        have cn2 : (F == n) = false := by simpa using cn
        clear hz hz2
        go_wp2_with fail
        go_region_held3 (fun w' => w'.cell? ⟨w.heap.size, 0, none⟩ = some (.bool b0) ∧ w'.cell? ⟨w.heap.size, 1, none⟩ = some (.bool b1) ∧ w'.cell? ⟨w.heap.size, 2, none⟩ = some (.bool b2) ∧ w'.cell? ⟨w.heap.size, 3, none⟩ = some (.bool b3) ∧ w'.cell? ⟨w.heap.size, 4, none⟩ = some (.bool b4) ∧ w'.cell? ⟨w.heap.size, 5, none⟩ = some (.bool b5) ∧ w'.cell? ⟨w.heap.size, 6, none⟩ = some (.bool b6) ∧ w'.cell? ⟨w.heap.size, 7, none⟩ = some (.slice (some ⟨g, off, none⟩) rules.length cap) ∧ w'.cell? ⟨g, off + k * 4, none⟩ = some (.int .i64 r0) ∧ w'.cell? ⟨g, off + k * 4 + 1, none⟩ = some (.int .i64 r1) ∧ w'.cell? ⟨g, off + k * 4 + 2, none⟩ = some (.int .i64 r2) ∧ w'.cell? ⟨g, off + k * 4 + 3, none⟩ = some (.int .i64 r3))
          (first | go_keep | (go_split_ands; (repeat' apply And.intro) <;> first | assumption | exact kp hbb (by assumption)) | fail)
          (first
            | (go_at_call 64; refine (HDK.out _ (bn (br _) _)).mono ?_; rintro en wb ⟨rfl, hbb⟩)
            | fail)
        have HX9 := Lib.hid ((HBX.out.dr 1).next hbb)
        have HB9 := Lib.hid (bd HBW.out hbb)
        clear hbb
        go_wp2
        go_roundw
        case rel => exact ⟨k + 1, by omega, by first | rfl | go_num, HZ2.out, HB9.out, HX9.out⟩
        case measure => simp [intOf]; omega
    · have i1 : ¬ (k : Int) < (rules.length : Int) := by omega
      rw [HAE.out k (by omega)] at hz
      have HZ2 := Lib.hid hz
      clear hz hbw
      go_wp2
      go_ret
      exact ⟨by rw [← HZ2.out]; rfl, HBW.out⟩
theorem isHolR_any (rest : List Bool) (v : Value) (rules : List Rl) (hc : Cal rest rules) (y n : Int) (hn : n ≠ 0) (w : World) (h : RdE elRl w v rules) (hy2 : y ≤ 9999) : Calls Try.prog 39 #[cV rest v, .int .i64 y, .int .i64 n] w (RetB (.bool (isHol rest rules y n)) w) := by
  by_cases hy : 1 ≤ y
  · rw [isHol_any rest rules y n hy hn]
    exact isHolR_1 rest hc.len hc.some_ v rules hc.ok y n w h hy hy2
  · have e : isHol rest rules y n = false := by unfold isHol; rw [decide_eq_false hy]; rfl
    rw [e]
    exact isHolR_0 rest hc.len v rules y n w h (by omega)
end Wk
end Go.Proofs.Ytjicpflgkhdppaa
