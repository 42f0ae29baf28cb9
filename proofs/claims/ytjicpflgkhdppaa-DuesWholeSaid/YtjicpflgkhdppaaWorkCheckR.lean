/- Days of work: a calendar's check. -/
import Derived.Test.YtjicpflgkhdppaaRuleEl
import Derived.Test.YtjicpflgkhdppaaBox
import Derived.Deep.MidRow
import Derived.ChangeKeysEq
import Derived.Laws.StructEq
set_option linter.unusedSimpArgs false
set_option linter.unusedVariables false
namespace Go.Proofs.Ytjicpflgkhdppaa
open Go.RowKit
namespace Wk
open Dt
theorem len7 {rest : List Bool} (h : rest.length = 7) : ∃ b0 b1 b2 b3 b4 b5 b6, rest = [b0, b1, b2, b3, b4, b5, b6] := by
  match rest, h with
  | [b0, b1, b2, b3, b4, b5, b6], _ => exact ⟨b0, b1, b2, b3, b4, b5, b6, rfl⟩
theorem eq7 (b0 b1 b2 b3 b4 b5 b6 : Bool) (w : World) : Sem.run Try.prog (binOp .eql 22 (.agg #[.bool b0, .bool b1, .bool b2, .bool b3, .bool b4, .bool b5, .bool b6]) (.agg #[.bool true, .bool true, .bool true, .bool true, .bool true, .bool true, .bool true])) w = .ok (.bool (b0 && b1 && b2 && b3 && b4 && b5 && b6)) w := by
  cases b0
  · kernel_rfl
  cases b1
  · kernel_rfl
  cases b2
  · kernel_rfl
  cases b3
  · kernel_rfl
  cases b4
  · kernel_rfl
  cases b5
  · kernel_rfl
  cases b6 <;> kernel_rfl
theorem eRl_at {w : World} {b off : Nat} {xs : List Rl} (h : ∀ (i : Nat) (h : i < xs.length) (j : Nat) (u : Value), (eRl xs[i])[j]? = some u → w.cell? ⟨b, off + (i * 4 + j), none⟩ = some u)
    (i : Nat) (hi : i < xs.length) : w.cell? ⟨b, off + i * 4, none⟩ = some (.int .i64 xs[i].1) ∧ w.cell? ⟨b, off + i * 4 + 1, none⟩ = some (.int .i64 xs[i].2.1) ∧ w.cell? ⟨b, off + i * 4 + 2, none⟩ = some (.int .i64 xs[i].2.2.1) ∧ w.cell? ⟨b, off + i * 4 + 3, none⟩ = some (.int .i64 xs[i].2.2.2) :=
  ⟨h i hi 0 _ rfl, h i hi 1 _ rfl, h i hi 2 _ rfl, h i hi 3 _ rfl⟩
theorem rulesE_at (l : List Rl) (k : Nat) (h : k < l.length) : rulesE (l.drop k) = if ruleE l[k] ≠ 0 then ruleE l[k] else rulesE (l.drop (k + 1)) := by
  rw [List.drop_eq_getElem_cons h]; rfl
theorem rulesE_end (l : List Rl) (k : Nat) (h : l.length ≤ k) : rulesE (l.drop k) = 0 := by
  rw [List.drop_eq_nil_of_le h]; rfl
abbrev calB (b0 b1 b2 b3 b4 b5 b6 : Bool) (v : Value) : List Value := [.bool b0, .bool b1, .bool b2, .bool b3, .bool b4, .bool b5, .bool b6, v]
/-- the load of the seven weekdays -/
theorem load7 {b0 b1 b2 b3 b4 b5 b6 : Bool} {v : Value} {w : World} {b : Nat} {t : TypeId} (h : Box w b t (calB b0 b1 b2 b3 b4 b5 b6 v)) : w.rangeAt b 0 [.bool b0, .bool b1, .bool b2, .bool b3, .bool b4, .bool b5, .bool b6] := by
  intro j u hu
  rw [Nat.zero_add, h.cell]
  match j with
  | 0 | 1 | 2 | 3 | 4 | 5 | 6 => simpa using hu
  | j + 7 => simp at hu
set_option maxRecDepth 100000 in
set_option maxHeartbeats 4000000 in
theorem check_t (v : Value) (rules : List Rl) (w : World) (h : RdE elRl w v rules) : Calls Try.prog 15 #[cV [true, true, true, true, true, true, true] v] w (IntB 1 w) := by
  obtain ⟨a, cap, rfl, h1, h2, h3⟩ := h
  clear h3
  show Calls Try.prog 15 #[.agg #[.bool true, .bool true, .bool true, .bool true, .bool true, .bool true, .bool true, .slice a rules.length cap]] w (IntB 1 w)
  have hbx := Box.new w 25 (calB true true true true true true true (.slice a rules.length cap))
  have HL := Lib.hid (load7 hbx)
  have heq := fun w => eq7 true true true true true true true w
  simp only [Bool.and_true] at heq
  clear hbx
  go_enter Try.func15, Try.ntmps15
  go_wp2_with (refine wpList_load_mid rfl 22 _ rfl _ 0 rfl _ _ HL.out Try.underlying22 rfl (by kernel_rfl) ?_)
  go_ret
  exact ⟨by first | rfl | (simp; done), by first | exact (br _).alloc (Nat.le_refl _) _ | exact bn ((br _).alloc (Nat.le_refl _) _) _ | exact ((br _).alloc (Nat.le_refl _) _).drew⟩
set_option maxRecDepth 100000 in
set_option maxHeartbeats 4000000 in
theorem check_f (b0 b1 b2 b3 b4 b5 b6 : Bool) (hall : (b0 && b1 && b2 && b3 && b4 && b5 && b6) = false) (v : Value) (rules : List Rl) (w : World) (h : RdE elRl w v rules) : Calls Try.prog 15 #[cV [b0, b1, b2, b3, b4, b5, b6] v] w (IntB (if 12 < rules.length then 2 else rulesE rules) w) := by
  have HRD := Lib.hid h
  obtain ⟨a, cap, rfl, h1, h2, h3⟩ := h
  have H3 := Lib.hid h3
  clear h3
  show Calls Try.prog 15 #[.agg #[.bool b0, .bool b1, .bool b2, .bool b3, .bool b4, .bool b5, .bool b6, .slice a rules.length cap]] w (IntB _ w)
  have hbx := Box.new w 25 (calB b0 b1 b2 b3 b4 b5 b6 (.slice a rules.length cap))
  have HL := Lib.hid (load7 hbx)
  have heq := fun w => eq7 b0 b1 b2 b3 b4 b5 b6 w
  simp only [hall] at heq
  have HBR := Lib.hid ((br w).alloc (Nat.le_refl _) (.cells #[.bool b0, .bool b1, .bool b2, .bool b3, .bool b4, .bool b5, .bool b6, .slice a rules.length cap] 25))
  clear hbx hall
  by_cases c : 12 < rules.length
  · rw [if_pos c]
    have c' : (12 : Int) < (rules.length : Int) := by omega
    clear H3 HRD
    go_enter Try.func15, Try.ntmps15
    go_wp2_with (refine wpList_load_mid rfl 22 _ rfl _ 0 rfl _ _ HL.out Try.underlying22 rfl (by kernel_rfl) ?_)
    go_ret
    exact ⟨by first | rfl | (simp; done), by first | exact HBR.out | exact bn HBR.out _ | exact HBR.out.drew⟩
  · rw [if_neg c]
    have c' : ¬ (12 : Int) < (rules.length : Int) := by omega
    have HE := Lib.hid (rulesE_at rules)
    have HEE := Lib.hid (rulesE_end rules)
    obtain ⟨RR, hRR⟩ : ∃ x, rulesE rules = x := ⟨_, rfl⟩
    have HF : RowKit.Hid (rulesE (rules.drop 0) = RR) := Lib.hid (by simpa using hRR)
    rw [hRR]
    clear hRR HRD
    go_enter Try.func15, Try.ntmps15
    go_wp2_with (refine wpList_load_mid rfl 22 _ rfl _ 0 rfl _ _ HL.out Try.underlying22 rfl (by kernel_rfl) ?_)
    go_loopw [19] (fun i wr => ∃ k : Nat, k ≤ rules.length ∧ i = .int .i64 k ∧ rulesE (rules.drop k) = RR ∧ Below w.heap.size w wr) (fun i _ => rules.length - (intOf i).toNat)
    case atStart => exact ⟨0, Nat.zero_le _, rfl, HF.out, HBR.out⟩
    case round =>
      obtain ⟨k, hk, rfl, hch, hbw⟩ := hrel
      have HBW := Lib.hid hbw
      by_cases hlt : k < rules.length
      · obtain ⟨g, off, rfl, hbl, hc⟩ := H3.out (by omega)
        obtain ⟨q0, q1, q2, q3⟩ := eRl_at hc k hlt
        have d0 := (hbw.cell (p := ⟨g, off + k * 4, none⟩) hbl).trans q0
        have d1 := (hbw.cell (p := ⟨g, off + k * 4 + 1, none⟩) hbl).trans q1
        have d2 := (hbw.cell (p := ⟨g, off + k * 4 + 2, none⟩) hbl).trans q2
        have d3 := (hbw.cell (p := ⟨g, off + k * 4 + 3, none⟩) hbl).trans q3
        have i1 : (k : Int) < (rules.length : Int) := by omega
        have i0 : (0 : Int) ≤ (k : Int) := by omega
        rw [HE.out k hlt] at hch
        have HR := Lib.hid (fun w => rule_any rules[k] w)
        have HRS := Lib.hid hbw.size
        clear hc q0 q1 q2 q3 hbw H3 HL heq HBR HF HE HEE
        obtain ⟨r, hr⟩ : ∃ r, rules[k] = r := ⟨_, rfl⟩
        rw [hr] at d0 d1 d2 d3 hch HR
        clear hr
        obtain ⟨r0, r1, r2, r3⟩ := r
        simp only at d0 d1 d2 d3 HR
        obtain ⟨x, hx⟩ : ∃ x, ruleE (r0, r1, r2, r3) = x := ⟨_, rfl⟩
        rw [hx] at hch HR
        clear hx
        by_cases c1 : x = 0
        · subst c1
          rw [if_neg (by simp)] at hch
          have HCH := Lib.hid hch
          clear hch
          go_wp2_with fail
          refine (HR.out _).mono ?_
          rintro en w2 ⟨rfl, b2⟩
          have HB2 := Lib.hid (bt (HBW.out.alloc HRS.out _) b2)
          clear b2
          go_wp2
          go_roundw
          case rel => exact ⟨k + 1, by omega, by first | rfl | go_num, HCH.out, HB2.out⟩
          case measure => simp [intOf]; omega
        · rw [if_pos c1] at hch
          have HCH := Lib.hid hch
          have c2 : (x == 0) = false := by simpa using c1
          clear hch
          go_wp2_with fail
          refine (HR.out _).mono ?_
          rintro en w2 ⟨rfl, b2⟩
          have HB2 := Lib.hid (bt (HBW.out.alloc HRS.out _) b2)
          clear b2
          go_wp2
          go_ret
          exact ⟨by rw [← HCH.out]; first | rfl | (simp; done), HB2.out⟩
      · have hkk : k = rules.length := by omega
        subst hkk
        rw [HEE.out _ (Nat.le_refl _)] at hch
        clear H3 HL heq HBR HF HE HEE hbw
        have HCH := Lib.hid hch
        clear hch
        go_wp2
        go_ret
        exact ⟨by rw [← HCH.out]; first | rfl | (simp; done), HBW.out⟩
theorem check_any (rest : List Bool) (hr : rest.length = 7) (v : Value) (rules : List Rl) (w : World) (h : RdE elRl w v rules) : Calls Try.prog 15 #[cV rest v] w (IntB (calE rest rules) w) := by
  obtain ⟨b0, b1, b2, b3, b4, b5, b6, rfl⟩ := len7 hr
  by_cases hall : (b0 && b1 && b2 && b3 && b4 && b5 && b6) = true
  · have e : b0 = true ∧ b1 = true ∧ b2 = true ∧ b3 = true ∧ b4 = true ∧ b5 = true ∧ b6 = true := by simpa [and_assoc] using hall
    obtain ⟨rfl, rfl, rfl, rfl, rfl, rfl, rfl⟩ := e
    exact check_t v rules w h
  · have hall' : (b0 && b1 && b2 && b3 && b4 && b5 && b6) = false := by simpa using hall
    have e : calE [b0, b1, b2, b3, b4, b5, b6] rules = if 12 < rules.length then 2 else rulesE rules := by
      unfold calE
      rw [if_neg (by simp only [List.all_cons, List.all_nil, id, Bool.and_true]; simpa [Bool.and_assoc] using hall)]
    rw [e]
    exact check_f b0 b1 b2 b3 b4 b5 b6 hall' v rules w h
end Wk
end Go.Proofs.Ytjicpflgkhdppaa
/- Days of work: a calendar's check, in the document. -/
set_option linter.unusedVariables false
namespace Go.Proofs.Ytjicpflgkhdppaa
open Go.RowKit
namespace Wk
open Dt
/-- how many of the first k weekdays are none of rest -/
def fr (rest : List Bool) (k : Nat) : Int := ((rest.take k).filter (fun b => !b)).length
theorem fr_0 (rest : List Bool) : fr rest 0 = 0 := rfl
theorem fr_succ (rest : List Bool) (k : Nat) (h : k < rest.length) : fr rest (k + 1) = fr rest k + if rest[k] = true then 0 else 1 := by
  unfold fr
  rw [List.take_succ_eq_append_getElem h, List.filter_append, List.length_append]
  cases rest[k] <;> simp
theorem fr_bd (rest : List Bool) (k : Nat) : 0 ≤ fr rest k ∧ fr rest k ≤ k := by
  unfold fr
  have := List.length_filter_le (fun b => !b) (rest.take k)
  simp only [List.length_take] at this
  omega
theorem fr_all (rest : List Bool) (k : Nat) (h : rest.length = k) : fr rest k = 0 ↔ rest.all id = true := by
  unfold fr
  rw [List.take_of_length_le (by omega)]
  rw [List.all_eq_true]
  constructor
  · intro h b hb
    by_cases hh : b = true
    · simpa using hh
    · have : b ∈ rest.filter (fun b => !b) := by simp only [List.mem_filter]; exact ⟨hb, by simpa using hh⟩
      have h0 : (rest.filter (fun b => !b)).length = 0 := by omega
      rw [List.length_eq_zero_iff] at h0
      rw [h0] at this; cases this
  · intro h
    have : rest.filter (fun b => !b) = [] := by
      rw [List.filter_eq_nil_iff]
      intro b hb
      have := h b hb
      simp at this; simp [this]
    rw [this]; rfl
set_option maxRecDepth 100000 in
set_option maxHeartbeats 4000000 in
theorem checkR_walk (rest : List Bool) (b0 b1 b2 b3 b4 b5 b6 : Bool) (hrest : rest = [b0, b1, b2, b3, b4, b5, b6]) (v : Value) (rules : List Rl) (w : World) (h : RdE elRl w v rules) (Z : Int) (hZ : Z = calE rest rules) : Calls Try.prog 16 #[cV [b0, b1, b2, b3, b4, b5, b6] v] w (IntB Z w) := by
  have HRD := Lib.hid h
  obtain ⟨a, cap, rfl, h1, h2, h3⟩ := h
  have H3 := Lib.hid h3
  clear h3
  have hlen : rest.length = 7 := by rw [hrest]; rfl
  have HFA := Lib.hid (fr_all rest 7 hlen)
  have HZ := Lib.hid hZ
  have HS := Lib.hid (fun (k : Nat) (h : k < 7) => fr_succ rest k (by omega))
  have HBD := Lib.hid (fr_bd rest)
  have HCELL : RowKit.Hid (∀ (k : Nat) (h : k < 7), (calB b0 b1 b2 b3 b4 b5 b6 (.slice a rules.length cap))[k]? = some (.bool (rest[k]'(by omega)))) := Lib.hid (by
    subst hrest
    intro k h
    match k, h with
    | 0, _ | 1, _ | 2, _ | 3, _ | 4, _ | 5, _ | 6, _ => rfl)
  clear hZ hrest
  show Calls Try.prog 16 #[.agg #[.bool b0, .bool b1, .bool b2, .bool b3, .bool b4, .bool b5, .bool b6, .slice a rules.length cap]] w (IntB _ w)
  have HBX := Lib.hid (Box.new w 25 (calB b0 b1 b2 b3 b4 b5 b6 (.slice a rules.length cap)))
  have HBR := Lib.hid ((br w).alloc (Nat.le_refl _) (.cells #[.bool b0, .bool b1, .bool b2, .bool b3, .bool b4, .bool b5, .bool b6, .slice a rules.length cap] 25))
  have HE := Lib.hid (rulesE_at rules)
  have HEE := Lib.hid (rulesE_end rules)
  have HSL : RowKit.Hid ((calB b0 b1 b2 b3 b4 b5 b6 (.slice a rules.length cap))[7]? = some (.slice a rules.length cap)) := Lib.hid rfl
  go_enter Try.func16, Try.ntmps16
  go_wp2
  go_loopw [3, 4] (fun f i wr => ∃ k : Nat, k ≤ 7 ∧ i = .int .i64 k ∧ f = .int .i64 (fr rest k) ∧ Below w.heap.size w wr ∧ Box wr w.heap.size 25 (calB b0 b1 b2 b3 b4 b5 b6 (.slice a rules.length cap))) (fun _ i _ => 7 - (intOf i).toNat)
  case atStart => exact ⟨0, by omega, rfl, rfl, HBR.out, HBX.out⟩
  case round =>
    obtain ⟨k, hk, rfl, rfl, hbw, hbx⟩ := hrel
    have HBW := Lib.hid hbw
    have HBX2 := Lib.hid hbx
    have hbd := HBD.out k
    by_cases hlt : k < 7
    · have d0 : wr.cell? ⟨w.heap.size, k, none⟩ = some (.bool (rest[k]'(by omega))) := by rw [hbx.cell, HCELL.out k hlt]
      have hs := HS.out k hlt
      have i1 : (k : Int) < 7 := by omega
      have i0 : (0 : Int) ≤ (k : Int) := by omega
      clear hbw hbx HCELL HE HEE H3 HRD HBX HBR HSL HFA HZ HS HBD
      obtain ⟨x, hx⟩ : ∃ x, rest[k]'(by omega) = x := ⟨_, rfl⟩
      rw [hx] at d0 hs
      clear hx
      obtain ⟨F, hF⟩ : ∃ x, fr rest k = x := ⟨_, rfl⟩
      rw [hF] at hs hbd
      rw [hF]
      clear hF
      cases x
      · have HSS : RowKit.Hid (fr rest (k + 1) = F + 1) := Lib.hid (by simpa using hs)
        clear hs
        go_wp2
        go_roundw
        case rel => exact ⟨k + 1, by omega, by first | rfl | go_num, by rw [HSS.out], HBW.out, HBX2.out⟩
        case measure => simp [intOf]; omega
      · have HSS : RowKit.Hid (fr rest (k + 1) = F) := Lib.hid (by simpa using hs)
        clear hs
        go_wp2
        go_roundw
        case rel => exact ⟨k + 1, by omega, by first | rfl | go_num, by rw [HSS.out], HBW.out, HBX2.out⟩
        case measure => simp [intOf]; omega
    · have hkk : k = 7 := by omega
      subst hkk
      clear hbw hbx HBX HBR HCELL HS HBD
      by_cases c0 : fr rest 7 = 0
      · rw [c0]
        have e : Z = 1 := by rw [HZ.out]; unfold calE; rw [if_pos (HFA.out.1 c0)]
        subst e
        clear H3 HRD HE HEE HFA HZ c0 hlt hbd
        go_wp2
        go_ret
        exact ⟨by first | rfl | (simp; done), by first | exact HBW.out | exact bn HBW.out _ | exact HBW.out.drew⟩
      · have e : Z = if 12 < rules.length then 2 else rulesE rules := by
          rw [HZ.out]; unfold calE; rw [if_neg (fun h => c0 (HFA.out.2 h))]
        have c0' : (fr rest 7 == 0) = false := by simpa using c0
        clear HFA HZ hlt
        obtain ⟨F, hF⟩ : ∃ x, fr rest 7 = x := ⟨_, rfl⟩
        rw [hF] at c0' hbd
        rw [hF]
        clear hF c0
        have d7 := HBX2.out.cell 7
        rw [HSL.out] at d7
        by_cases c : 12 < rules.length
        · rw [if_pos c] at e
          subst e
          have c' : (12 : Int) < (rules.length : Int) := by omega
          clear H3 HRD HE HEE HSL
          go_wp2
          go_ret
          exact ⟨by first | rfl | (simp; done), by first | exact HBW.out | exact bn HBW.out _ | exact HBW.out.drew⟩
        · rw [if_neg c] at e
          have HF : RowKit.Hid (rulesE (rules.drop 0) = Z) := Lib.hid (by simpa using e.symm)
          clear e
          have c' : ¬ (12 : Int) < (rules.length : Int) := by omega
          clear HRD
          go_wp2
          go_loopw [5] (fun i w2 => ∃ k : Nat, k ≤ rules.length ∧ i = .int .i64 k ∧ rulesE (rules.drop k) = Z ∧ Below w.heap.size w w2 ∧ Box w2 w.heap.size 25 (calB b0 b1 b2 b3 b4 b5 b6 (.slice a rules.length cap))) (fun i _ => rules.length - (intOf i).toNat)
          case atStart => exact ⟨0, Nat.zero_le _, rfl, HF.out, HBW.out, HBX2.out⟩
          case round =>
            clear d7
            obtain ⟨k, hk, rfl, hch, hbw, hbx⟩ := hrel
            have d7 := hbx.cell 7
            rw [HSL.out] at d7
            by_cases hlt : k < rules.length
            · obtain ⟨g, off, rfl, hbl, hc⟩ := H3.out (by omega)
              obtain ⟨q0, q1, q2, q3⟩ := eRl_at hc k hlt
              have d0 := (hbw.cell (p := ⟨g, off + k * 4, none⟩) hbl).trans q0
              have d1 := (hbw.cell (p := ⟨g, off + k * 4 + 1, none⟩) hbl).trans q1
              have d2 := (hbw.cell (p := ⟨g, off + k * 4 + 2, none⟩) hbl).trans q2
              have d3 := (hbw.cell (p := ⟨g, off + k * 4 + 3, none⟩) hbl).trans q3
              have i1 : (k : Int) < (rules.length : Int) := by omega
              have i0 : (0 : Int) ≤ (k : Int) := by omega
              rw [HE.out k hlt] at hch
              have HR := Lib.hid (fun w => ruleR_any rules[k] w)
              have HBY := Lib.hid hbw
              have HBZ := Lib.hid hbx
              clear hc q0 q1 q2 q3 hbw hbx HBW HBX2 H3 HF HE HEE HSL
              obtain ⟨r, hr⟩ : ∃ r, rules[k] = r := ⟨_, rfl⟩
              rw [hr] at d0 d1 d2 d3 hch HR
              clear hr
              obtain ⟨r0, r1, r2, r3⟩ := r
              simp only at d0 d1 d2 d3 HR
              obtain ⟨x, hx⟩ : ∃ x, ruleE (r0, r1, r2, r3) = x := ⟨_, rfl⟩
              rw [hx] at hch HR
              clear hx
              by_cases c1 : x = 0
              · subst c1
                rw [if_neg (by simp)] at hch
                have HCH := Lib.hid hch
                clear hch
                go_wp2_with fail
                refine (HR.out _).mono ?_
                rintro en w3 ⟨rfl, b3⟩
                have HB3 := Lib.hid (bt HBY.out b3)
                have HB4 := Lib.hid (HBZ.out.next b3)
                clear b3
                go_wp2
                go_roundw
                case rel => exact ⟨k + 1, by omega, by first | rfl | go_num, HCH.out, HB3.out, HB4.out⟩
                case measure => simp [intOf]; omega
              · rw [if_pos c1] at hch
                have HCH := Lib.hid hch
                have c2 : (x == 0) = false := by simpa using c1
                clear hch
                go_wp2_with fail
                refine (HR.out _).mono ?_
                rintro en w3 ⟨rfl, b3⟩
                have HB3 := Lib.hid (bt HBY.out b3)
                clear b3
                go_wp2
                go_ret
                exact ⟨by rw [← HCH.out]; first | rfl | (simp; done), HB3.out⟩
            · have hkk : k = rules.length := by omega
              subst hkk
              rw [HEE.out _ (Nat.le_refl _)] at hch
              have HBY := Lib.hid hbw
              clear H3 HF HE HEE hbw hbx HBW HBX2
              have HCH := Lib.hid hch
              clear hch
              go_wp2
              go_ret
              exact ⟨by rw [← HCH.out]; first | rfl | (simp; done), HBY.out⟩
theorem checkR_any (rest : List Bool) (hr : rest.length = 7) (v : Value) (rules : List Rl) (w : World) (h : RdE elRl w v rules) : Calls Try.prog 16 #[cV rest v] w (IntB (calE rest rules) w) := by
  obtain ⟨b0, b1, b2, b3, b4, b5, b6, rfl⟩ := len7 hr
  exact checkR_walk _ b0 b1 b2 b3 b4 b5 b6 rfl v rules w h _ rfl
end Wk
end Go.Proofs.Ytjicpflgkhdppaa
