/- What is due: pairs of a day and pence; when a list of them is right. -/
import Derived.Test.YtjicpflgkhdppaaTermRefN
import Derived.Test.YtjicpflgkhdppaaShareE
import Derived.Test.YtjicpflgkhdppaaWorkRefs
import Derived.BigQuiet
import Derived.ChangeKeysEq
import Derived.Laws.StructEq
import Derived.BigRegion
set_option linter.unusedSimpArgs false
set_option linter.unusedVariables false
namespace Go.Proofs.Ytjicpflgkhdppaa
open Go.RowKit
namespace Du
open Dt Wk
abbrev Due := Int × Int
def eU (d : Due) : List Value := [.int .i64 d.1, .int .i64 d.2]
@[reducible] def elU : El Due where
  k := 2
  enc := eU
  te := 61
  ts := 51
  bytes := 16
  zero := .agg #[.int .i64 0, .int .i64 0]
  k0 := by decide
  zs := rfl
  len := fun _ => rfl
  one := fun x y h => by simp [eU] at h; rcases h with rfl | rfl <;> rfl
  info := by kernel_rfl
  und := Try.underlying51
theorem eU_at {w : World} {b off : Nat} {xs : List Due} (h : ∀ (i : Nat) (h : i < xs.length) (j : Nat) (u : Value), (eU xs[i])[j]? = some u → w.cell? ⟨b, off + (i * 2 + j), none⟩ = some u)
    (i : Nat) (hi : i < xs.length) : w.cell? ⟨b, off + i * 2, none⟩ = some (.int .i64 xs[i].1) ∧ w.cell? ⟨b, off + i * 2 + 1, none⟩ = some (.int .i64 xs[i].2) := ⟨h i hi 0 _ rfl, h i hi 1 _ rfl⟩
/-- pence that there are -/
def okU (q : Int) : Prop := 0 ≤ q ∧ q ≤ 1099511627776
instance (q : Int) : Decidable (okU q) := by unfold okU; exact inferInstance
def beh : Option Int → Int → Bool
  | some x, y => decide (y < x)
  | none, _ => false
def chkL : Option Int → List Due → Int
  | _, [] => 0
  | p, s :: l => if isD s.1 = false then 3 else if ¬ okU s.2 then 3 else if beh p s.1 = true then 4 else chkL (some s.1) l
def chkU (l : List Due) : Int := if 32 < l.length then 2 else chkL none l
def prev (l : List Due) (k : Nat) : Option Int := if k = 0 then none else (l[k - 1]?).map (·.1)
theorem chkL_at (l : List Due) (k : Nat) (h : k < l.length) : chkL (prev l k) (l.drop k) = if isD l[k].1 = false then 3 else if ¬ okU l[k].2 then 3 else if beh (prev l k) l[k].1 = true then 4 else chkL (prev l (k + 1)) (l.drop (k + 1)) := by
  rw [List.drop_eq_getElem_cons h]
  have : prev l (k + 1) = some l[k].1 := by unfold prev; simp [h]
  rw [this]; rfl
/-- a list that is right -/
theorem chkL_ok : ∀ (l : List Due) (p : Option Int), chkL p l = 0 → ∀ s ∈ l, okU s.2
  | [], _, _, s, hs => by cases hs
  | a :: l, p, h, s, hs => by
    unfold chkL at h
    by_cases c1 : isD a.1 = false
    · rw [if_pos c1] at h; omega
    · rw [if_neg c1] at h
      by_cases c2 : okU a.2
      · rw [if_neg (fun g => g c2)] at h
        by_cases c3 : beh p a.1 = true
        · rw [if_pos c3] at h; omega
        · rw [if_neg c3] at h
          rcases List.mem_cons.1 hs with rfl | hs
          · exact c2
          · exact chkL_ok l _ h s hs
      · rw [if_pos c2] at h; omega
theorem chkU_ok {l : List Due} (h : chkU l = 0) : l.length ≤ 32 ∧ ∀ s ∈ l, okU s.2 := by
  unfold chkU at h
  by_cases c : 32 < l.length
  · rw [if_pos c] at h; omega
  · rw [if_neg c] at h; exact ⟨by omega, chkL_ok l _ h⟩
/-- pence of the first k up to a day -/
def paid (l : List Due) (n : Int) : Nat → Int
  | 0 => 0
  | k + 1 => paid l n k + if (l.getD k (0, 0)).1 ≤ n then (l.getD k (0, 0)).2 else 0
/-- .. and behind it -/
def unpaid (l : List Due) (n : Int) : Nat → Int
  | 0 => 0
  | k + 1 => unpaid l n k + if (l.getD k (0, 0)).1 ≤ n then 0 else (l.getD k (0, 0)).2
def total (l : List Due) : Nat → Int
  | 0 => 0
  | k + 1 => total l k + (l.getD k (0, 0)).2
theorem paid_bd (l : List Due) (h : ∀ s ∈ l, okU s.2) (n : Int) : ∀ k : Nat, k ≤ l.length → 0 ≤ paid l n k ∧ paid l n k ≤ 1099511627776 * k ∧ 0 ≤ unpaid l n k ∧ unpaid l n k ≤ 1099511627776 * k ∧ paid l n k + unpaid l n k = total l k
  | 0, _ => by simp [paid, unpaid, total]
  | k + 1, hk => by
    have ih := paid_bd l h n k (by omega)
    have hm := h l[k] (List.getElem_mem (by omega))
    have e : l.getD k (0, 0) = l[k] := by simp [List.getD_eq_getElem?_getD, List.getElem?_eq_getElem (show k < l.length by omega)]
    unfold okU at hm
    unfold paid unpaid total
    rw [e]
    split <;> omega
theorem paid_mono (l : List Due) (h : ∀ s ∈ l, okU s.2) (n m : Int) (hnm : n ≤ m) : ∀ k : Nat, k ≤ l.length → paid l n k ≤ paid l m k
  | 0, _ => by simp [paid]
  | k + 1, hk => by
    have ih := paid_mono l h n m hnm k (by omega)
    have hm := h l[k] (List.getElem_mem (by omega))
    have e : l.getD k (0, 0) = l[k] := by simp [List.getD_eq_getElem?_getD, List.getElem?_eq_getElem (show k < l.length by omega)]
    unfold okU at hm
    unfold paid
    rw [e]
    split <;> split <;> omega
theorem paid_all (l : List Due) (h : ∀ s ∈ l, s.1 ≤ 3652059) : ∀ k : Nat, k ≤ l.length → paid l 3652059 k = total l k
  | 0, _ => rfl
  | k + 1, hk => by
    have e : l.getD k (0, 0) = l[k] := by simp [List.getD_eq_getElem?_getD, List.getElem?_eq_getElem (show k < l.length by omega)]
    have := h l[k] (List.getElem_mem (by omega))
    unfold paid total
    rw [paid_all l h k (by omega), e, if_pos this]
theorem chkL_day : ∀ (l : List Due) (p : Option Int), chkL p l = 0 → ∀ s ∈ l, s.1 ≤ 3652059
  | [], _, _, s, hs => by cases hs
  | a :: l, p, h, s, hs => by
    unfold chkL at h
    by_cases c1 : isD a.1 = false
    · rw [if_pos c1] at h; omega
    · rw [if_neg c1] at h
      by_cases c2 : okU a.2
      · rw [if_neg (fun g => g c2)] at h
        by_cases c3 : beh p a.1 = true
        · rw [if_pos c3] at h; omega
        · rw [if_neg c3] at h
          rcases List.mem_cons.1 hs with rfl | hs
          · have : isD s.1 = true := by simpa using c1
            unfold isD at this
            have := of_decide_eq_true this; omega
          · exact chkL_day l _ h s hs
      · rw [if_pos c2] at h; omega
theorem chkU_day {l : List Due} (h : chkU l = 0) : ∀ s ∈ l, s.1 ≤ 3652059 := by
  unfold chkU at h
  by_cases c : 32 < l.length
  · rw [if_pos c] at h; omega
  · rw [if_neg c] at h; exact chkL_day l _ h
end Du
end Go.Proofs.Ytjicpflgkhdppaa
/- What is due: is a list right; what is paid. (gen_due.py) -/
set_option linter.unusedVariables false
namespace Go.Proofs.Ytjicpflgkhdppaa
open Go.RowKit
namespace Du
open Dt Wk
set_option maxRecDepth 100000 in
set_option maxHeartbeats 8000000 in
theorem check_any (v : Value) (l : List Due) (w : World) (h : RdE elU w v l) : Calls Try.prog 35 #[v] w (IntB (chkU l) w) := by
  have hle := h.len_le
  obtain ⟨a, cap, rfl, h1, h2, h3⟩ := h
  have H3 := Lib.hid h3; clear h3
  by_cases c0 : 32 < l.length
  · have HF : RowKit.Hid (chkU l = 2) := Lib.hid (by unfold chkU; rw [if_pos c0])
    have hq : (32 : Int) < (l.length : Int) := by omega
    clear c0 H3
    go_enter Try.func35, Try.ntmps35
    go_wp2
    go_ret
    exact ⟨by rw [HF.out]; rfl, br _⟩
  have hq : ¬ (32 : Int) < (l.length : Int) := by omega
  have HF : RowKit.Hid (chkU l = chkL (prev l 0) (l.drop 0)) := Lib.hid (by unfold chkU; rw [if_neg c0]; rfl)
  go_enter Try.func35, Try.ntmps35
  go_wp2
  go_loopw [10] (fun i wr => ∃ k : Nat, k ≤ l.length ∧ i = .int .i64 k ∧ chkU l = chkL (prev l k) (l.drop k) ∧ Below w.heap.size w wr) (fun i _ => l.length - (intOf i).toNat)
  case atStart => exact ⟨0, Nat.zero_le _, rfl, HF.out, br _⟩
  case round =>
    obtain ⟨k, hk, rfl, hch, hbw⟩ := hrel
    have HBW := Lib.hid hbw
    by_cases hlt : k < l.length
    · obtain ⟨g, off, rfl, hbl, hc⟩ := H3.out (by omega)
      obtain ⟨q0, q1⟩ := eU_at hc k hlt
      have d0 := (hbw.cell (p := ⟨g, off + k * 2, none⟩) hbl).trans q0
      have d1 := (hbw.cell (p := ⟨g, off + k * 2 + 1, none⟩) hbl).trans q1
      have i1 : (k : Int) < (l.length : Int) := by omega
      have i0 : (0 : Int) ≤ (k : Int) := by omega
      rw [chkL_at l k hlt] at hch
      have HBA := Lib.hid (hbw.alloc (by have := hbw.size; exact this) (.cells #[.int .i64 l[k].1, .int .i64 l[k].2] 61))
      have hpr : k = 0 ∨ ∃ h' : k - 1 < l.length, 0 < k ∧ prev l k = some l[k - 1].1 := by
        by_cases h0 : k = 0
        · exact .inl h0
        · exact .inr ⟨by omega, by omega, by unfold prev; rw [if_neg h0, List.getElem?_eq_getElem (by omega)]; rfl⟩
      have HPR := Lib.hid hpr
      have HQ := Lib.hid (fun (h' : k - 1 < l.length) => (hbw.cell (p := ⟨g, off + (k - 1) * 2, none⟩) hbl).trans (eU_at hc (k - 1) h').1)
      have HI := Lib.hid (fun w => is_any l[k].1 w)
      clear hc q0 q1 hbw hpr H3
      obtain ⟨s, hs⟩ : ∃ s, l[k] = s := ⟨_, rfl⟩
      rw [hs] at d0 d1 hch HBA HI
      clear hs
      obtain ⟨p, q⟩ := s
      simp only at d0 d1 hch HBA HI
      obtain ⟨D, hD⟩ : ∃ D, isD p = D := ⟨_, rfl⟩
      rw [hD] at hch HI
      clear hD
      cases D with
      | false =>
        rw [if_pos rfl] at hch
        have HCH := Lib.hid hch
        clear hch HPR HQ
        go_wp2_with fail
        refine (HI.out _).mono ?_
        rintro en w2 ⟨rfl, e2⟩
        subst e2
        go_wp2
        go_ret
        exact ⟨by rw [HCH.out]; rfl, HBA.out⟩
      | true =>
        rw [if_neg (by simp)] at hch
        by_cases c1 : q < 0
        · rw [if_pos (by unfold okU; omega)] at hch
          have HCH := Lib.hid hch
          clear hch HPR HQ
          go_wp2_with fail
          refine (HI.out _).mono ?_
          rintro en w2 ⟨rfl, e2⟩
          subst e2
          go_wp2
          go_ret
          exact ⟨by rw [HCH.out]; rfl, HBA.out⟩
        by_cases c2 : 1099511627776 < q
        · rw [if_pos (by unfold okU; omega)] at hch
          have HCH := Lib.hid hch
          clear hch HPR HQ
          go_wp2_with fail
          refine (HI.out _).mono ?_
          rintro en w2 ⟨rfl, e2⟩
          subst e2
          go_wp2
          go_ret
          exact ⟨by rw [HCH.out]; rfl, HBA.out⟩
        rw [if_neg (by unfold okU; omega)] at hch
        rcases HPR.out with rfl | ⟨hk1, hk0, hpv⟩
        · have hch2 : chkU l = chkL (prev l 1) (l.drop 1) := by
            rw [hch, if_neg (by unfold prev; simp [beh])]
          have HCH := Lib.hid hch2
          clear hch hch2 HPR HQ
          simp only [Nat.zero_mul, Nat.add_zero, Int.ofNat_zero] at d0 d1 i0 i1
          go_wp2_with fail
          refine (HI.out _).mono ?_
          rintro en w2 ⟨rfl, e2⟩
          subst e2
          go_wp2_with fail
          go_quiet (fail)
          go_wp2
          go_roundw
          case rel => exact ⟨1, by omega, by first | rfl | go_num, HCH.out, bn HBA.out _⟩
          case measure => simp [intOf]; omega
        · obtain ⟨j, rfl⟩ : ∃ j, k = j + 1 := ⟨k - 1, by omega⟩
          simp only [Nat.add_sub_cancel] at hk1 hpv
          have q1' := HQ.out hk1
          simp only [Nat.add_sub_cancel] at q1'
          rw [hpv] at hch
          have ij0 : (0 : Int) ≤ (j : Int) := by omega
          have ij1 : (j : Int) < (l.length : Int) := by omega
          have ijp : (0 : Int) < (j : Int) + 1 := by omega
          generalize l[j].1 = x at *
          have e0 := kp ((br wr).alloc (Nat.le_refl _) (.cells #[.int .i64 p, .int .i64 q] 61)) q1'
          clear HPR hpv HQ  
          by_cases c3 : p < x
          · rw [if_pos (show beh (some x) p = true from decide_eq_true c3)] at hch
            have HCH := Lib.hid hch
            clear hch
            go_wp2_with fail
            refine (HI.out _).mono ?_
            rintro en w2 ⟨rfl, e2⟩
            subst e2
            go_wp2_with fail
            go_quiet (fail)
            go_wp2
            go_ret
            exact ⟨by rw [HCH.out]; rfl, bn HBA.out _⟩
          · rw [if_neg (by simp [beh]; omega)] at hch
            have HCH := Lib.hid hch
            clear hch
            go_wp2_with fail
            refine (HI.out _).mono ?_
            rintro en w2 ⟨rfl, e2⟩
            subst e2
            go_wp2_with fail
            go_quiet (fail)
            go_wp2
            go_roundw
            case rel => exact ⟨j + 1 + 1, by omega, by go_num, HCH.out, bn HBA.out _⟩
            case measure => simp [intOf]; omega
    · have HCH : RowKit.Hid (chkU l = 0) := Lib.hid (by rw [hch, List.drop_eq_nil_of_le (by omega)]; rfl)
      have hl2 : ¬ (k : Int) < (l.length : Int) := by omega
      clear hch H3
      go_wp2
      go_ret
      exact ⟨by rw [HCH.out]; rfl, HBW.out⟩
set_option maxRecDepth 100000 in
set_option maxHeartbeats 8000000 in
theorem checkR_any (v : Value) (l : List Due) (w : World) (h : RdE elU w v l) : Calls Try.prog 31 #[v] w (IntB (chkU l) w) := by
  have hle := h.len_le
  obtain ⟨a, cap, rfl, h1, h2, h3⟩ := h
  have H3 := Lib.hid h3; clear h3
  by_cases c0 : 32 < l.length
  · have HF : RowKit.Hid (chkU l = 2) := Lib.hid (by unfold chkU; rw [if_pos c0])
    have hq : (32 : Int) < (l.length : Int) := by omega
    clear c0 H3
    go_enter Try.func31, Try.ntmps31
    go_wp2
    go_ret
    exact ⟨by rw [HF.out]; rfl, br _⟩
  have hq : ¬ (32 : Int) < (l.length : Int) := by omega
  have HF : RowKit.Hid (chkU l = chkL (prev l 0) (l.drop 0)) := Lib.hid (by unfold chkU; rw [if_neg c0]; rfl)
  go_enter Try.func31, Try.ntmps31
  go_wp2
  go_loopw [3] (fun i wr => ∃ k : Nat, k ≤ l.length ∧ i = .int .i64 k ∧ chkU l = chkL (prev l k) (l.drop k) ∧ Below w.heap.size w wr) (fun i _ => l.length - (intOf i).toNat)
  case atStart => exact ⟨0, Nat.zero_le _, rfl, HF.out, br _⟩
  case round =>
    obtain ⟨k, hk, rfl, hch, hbw⟩ := hrel
    have HBW := Lib.hid hbw
    by_cases hlt : k < l.length
    · obtain ⟨g, off, rfl, hbl, hc⟩ := H3.out (by omega)
      obtain ⟨q0, q1⟩ := eU_at hc k hlt
      have d0 := (hbw.cell (p := ⟨g, off + k * 2, none⟩) hbl).trans q0
      have d1 := (hbw.cell (p := ⟨g, off + k * 2 + 1, none⟩) hbl).trans q1
      have i1 : (k : Int) < (l.length : Int) := by omega
      have i0 : (0 : Int) ≤ (k : Int) := by omega
      rw [chkL_at l k hlt] at hch
      have HBA := Lib.hid hbw
      have hpr : k = 0 ∨ ∃ h' : k - 1 < l.length, 0 < k ∧ prev l k = some l[k - 1].1 := by
        by_cases h0 : k = 0
        · exact .inl h0
        · exact .inr ⟨by omega, by omega, by unfold prev; rw [if_neg h0, List.getElem?_eq_getElem (by omega)]; rfl⟩
      have HPR := Lib.hid hpr
      have HQ := Lib.hid (fun (h' : k - 1 < l.length) => (hbw.cell (p := ⟨g, off + (k - 1) * 2, none⟩) hbl).trans (eU_at hc (k - 1) h').1)
      have HI := Lib.hid (fun w => noDay_any l[k].1 w)
      clear hc q0 q1 hbw hpr H3
      obtain ⟨s, hs⟩ : ∃ s, l[k] = s := ⟨_, rfl⟩
      rw [hs] at d0 d1 hch HI
      clear hs
      obtain ⟨p, q⟩ := s
      simp only at d0 d1 hch HI
      obtain ⟨D, hD⟩ : ∃ D, isD p = D := ⟨_, rfl⟩
      rw [hD] at hch HI
      clear hD
      cases D with
      | false =>
        rw [if_pos rfl] at hch
        have HCH := Lib.hid hch
        clear hch HPR HQ
        go_wp2_with fail
        refine (HI.out _).mono ?_
        rintro en w2 ⟨rfl, e2⟩
        subst e2
        go_wp2
        go_ret
        exact ⟨by rw [HCH.out]; rfl, HBA.out⟩
      | true =>
        rw [if_neg (by simp)] at hch
        by_cases c1 : q < 0
        · rw [if_pos (by unfold okU; omega)] at hch
          have HCH := Lib.hid hch
          clear hch HPR HQ
          go_wp2_with fail
          refine (HI.out _).mono ?_
          rintro en w2 ⟨rfl, e2⟩
          subst e2
          go_wp2
          go_ret
          exact ⟨by rw [HCH.out]; rfl, HBA.out⟩
        by_cases c2 : 1099511627776 < q
        · rw [if_pos (by unfold okU; omega)] at hch
          have HCH := Lib.hid hch
          clear hch HPR HQ
          go_wp2_with fail
          refine (HI.out _).mono ?_
          rintro en w2 ⟨rfl, e2⟩
          subst e2
          go_wp2
          go_ret
          exact ⟨by rw [HCH.out]; rfl, HBA.out⟩
        rw [if_neg (by unfold okU; omega)] at hch
        rcases HPR.out with rfl | ⟨hk1, hk0, hpv⟩
        · have hch2 : chkU l = chkL (prev l 1) (l.drop 1) := by
            rw [hch, if_neg (by unfold prev; simp [beh])]
          have HCH := Lib.hid hch2
          clear hch hch2 HPR HQ
          simp only [Nat.zero_mul, Nat.add_zero, Int.ofNat_zero] at d0 d1 i0 i1
          go_wp2_with fail
          refine (HI.out _).mono ?_
          rintro en w2 ⟨rfl, e2⟩
          subst e2
          go_wp2_with fail
          go_quiet (fail)
          go_wp2
          go_roundw
          case rel => exact ⟨1, by omega, by first | rfl | go_num, HCH.out, bn HBA.out _⟩
          case measure => simp [intOf]; omega
        · obtain ⟨j, rfl⟩ : ∃ j, k = j + 1 := ⟨k - 1, by omega⟩
          simp only [Nat.add_sub_cancel] at hk1 hpv
          have q1' := HQ.out hk1
          simp only [Nat.add_sub_cancel] at q1'
          rw [hpv] at hch
          have ij0 : (0 : Int) ≤ (j : Int) := by omega
          have ij1 : (j : Int) < (l.length : Int) := by omega
          have ijp : (0 : Int) < (j : Int) + 1 := by omega
          generalize l[j].1 = x at *
          have e0 := kp ((br wr)) q1'
          clear HPR hpv HQ  
          by_cases c3 : p < x
          · rw [if_pos (show beh (some x) p = true from decide_eq_true c3)] at hch
            have HCH := Lib.hid hch
            clear hch
            go_wp2_with fail
            refine (HI.out _).mono ?_
            rintro en w2 ⟨rfl, e2⟩
            subst e2
            go_wp2_with fail
            go_quiet (fail)
            go_wp2
            go_ret
            exact ⟨by rw [HCH.out]; rfl, bn HBA.out _⟩
          · rw [if_neg (by simp [beh]; omega)] at hch
            have HCH := Lib.hid hch
            clear hch
            go_wp2_with fail
            refine (HI.out _).mono ?_
            rintro en w2 ⟨rfl, e2⟩
            subst e2
            go_wp2_with fail
            go_quiet (fail)
            go_wp2
            go_roundw
            case rel => exact ⟨j + 1 + 1, by omega, by go_num, HCH.out, bn HBA.out _⟩
            case measure => simp [intOf]; omega
    · have HCH : RowKit.Hid (chkU l = 0) := Lib.hid (by rw [hch, List.drop_eq_nil_of_le (by omega)]; rfl)
      have hl2 : ¬ (k : Int) < (l.length : Int) := by omega
      clear hch H3
      go_wp2
      go_ret
      exact ⟨by rw [HCH.out]; rfl, HBW.out⟩
end Du
end Go.Proofs.Ytjicpflgkhdppaa
/- What is due: what is paid, and what is not; two lists that are one. -/
set_option linter.unusedVariables false
namespace Go.Proofs.Ytjicpflgkhdppaa
open Go.RowKit
namespace Du
open Dt Wk
theorem paid_succ (l : List Due) (n : Int) (k : Nat) (h : k < l.length) : (l[k].1 ≤ n → paid l n (k + 1) = paid l n k + l[k].2 ∧ unpaid l n (k + 1) = unpaid l n k) ∧ (¬ l[k].1 ≤ n → paid l n (k + 1) = paid l n k ∧ unpaid l n (k + 1) = unpaid l n k + l[k].2) := by
  have e : l.getD k (0, 0) = l[k] := by simp [List.getD_eq_getElem?_getD, List.getElem?_eq_getElem h]
  constructor
  · intro g
    have e1 : paid l n (k + 1) = paid l n k + if (l.getD k (0, 0)).1 ≤ n then (l.getD k (0, 0)).2 else 0 := rfl
    have e2 : unpaid l n (k + 1) = unpaid l n k + if (l.getD k (0, 0)).1 ≤ n then 0 else (l.getD k (0, 0)).2 := rfl
    rw [e1, e2, e, if_pos g, if_pos g]; exact ⟨rfl, by omega⟩
  · intro g
    have e1 : paid l n (k + 1) = paid l n k + if (l.getD k (0, 0)).1 ≤ n then (l.getD k (0, 0)).2 else 0 := rfl
    have e2 : unpaid l n (k + 1) = unpaid l n k + if (l.getD k (0, 0)).1 ≤ n then 0 else (l.getD k (0, 0)).2 := rfl
    rw [e1, e2, e, if_neg g, if_neg g]; exact ⟨by omega, rfl⟩
set_option maxRecDepth 100000 in
set_option maxHeartbeats 4000000 in
theorem penceR_any (v : Value) (l : List Due) (hl : l.length ≤ 32) (hok : ∀ s ∈ l, okU s.2) (n : Int) (w : World) (h : RdE elU w v l) : Calls Try.prog 32 #[v, .int .i64 n] w fun e w' => e = .returned (.int .i64 (paid l n l.length)) ∧ w = w' := by
  obtain ⟨a, cap, rfl, h1, h2, h3⟩ := h
  have H3 := Lib.hid h3; clear h3
  have HB := Lib.hid (paid_bd l hok n)
  have HS := Lib.hid (paid_succ l n)
  go_enter Try.func32, Try.ntmps32
  go_wp2
  go_loop [5, 6] (fun s i => ∃ k : Nat, k ≤ l.length ∧ i = .int .i64 k ∧ s = .int .i64 (paid l n k)) (fun _ i => l.length - (intOf i).toNat)
  case atStart => exact ⟨0, Nat.zero_le _, rfl, rfl⟩
  case round =>
    obtain ⟨k, hk, rfl, rfl⟩ := hrel
    by_cases hlt : k < l.length
    · obtain ⟨g, off, rfl, hbl, hc⟩ := H3.out (by omega)
      obtain ⟨d0, d1⟩ := eU_at hc k hlt
      have i1 : (k : Int) < (l.length : Int) := by omega
      have i0 : (0 : Int) ≤ (k : Int) := by omega
      have hb := HB.out k (by omega)
      have hok := hok l[k] (List.getElem_mem hlt)
      obtain ⟨s1, s2⟩ := HS.out k hlt
      obtain ⟨P, hP⟩ : ∃ P, paid l n k = P := ⟨_, rfl⟩
      rw [hP] at hb s1 s2 ⊢
      obtain ⟨s, hs⟩ : ∃ s, l[k] = s := ⟨_, rfl⟩
      rw [hs] at d0 d1 hok s1 s2
      clear hs hP hc HB HS H3
      obtain ⟨p, q⟩ := s
      simp only at d0 d1 hok s1 s2
      unfold okU at hok
      have S1 := Lib.hid s1; have S2 := Lib.hid s2
      clear s1 s2
      by_cases c : p ≤ n
      · have HP := Lib.hid (S1.out c).1
        go_wp2
        go_round
        case rel => exact ⟨k + 1, by omega, by first | rfl | go_num, by rw [HP.out]⟩
        case measure => simp [intOf]; omega
      · have HP := Lib.hid (S2.out (by omega)).1
        go_wp2
        go_round
        case rel => exact ⟨k + 1, by omega, by first | rfl | go_num, by rw [HP.out]⟩
        case measure => simp [intOf]; omega
    · have hkk : k = l.length := by omega
      subst hkk
      go_wp2
      go_ret
      exact ⟨rfl, rfl⟩
def PaidQ (l : List Due) (n : Int) (w : World) (e : Ending) (w' : World) : Prop := e = .returned (.tuple #[.int .i64 (if chkU l = 0 then paid l n l.length else 0), .int .i64 (if chkU l = 0 then unpaid l n l.length else 0), .int .i64 (chkU l)]) ∧ Below w.heap.size w w'
set_option maxRecDepth 100000 in
set_option maxHeartbeats 8000000 in
theorem paid_any (v : Value) (l : List Due) (n : Int) (w : World) (h : RdE elU w v l) : Calls Try.prog 29 #[v, .int .i64 n] w (PaidQ l n w) := by
  have CK : RowKit.Hid (∀ w', Below w.heap.size w w' → Calls Try.prog 35 #[v] w' (IntB (chkU l) w')) := Lib.hid (fun w' hb => check_any v l w' (h.below hb))
  obtain ⟨a, cap, rfl, h1, h2, h3⟩ := h
  have H3 := Lib.hid h3; clear h3
  have HB0 := Lib.hid (((br w).alloc (Nat.le_refl _) (.cells #[.int .i64 0] 3)).alloc (by simp) (.cells #[.int .i64 0] 3))
  have HX1 := Lib.hid ((Box.new w 3 [.int .i64 0]).alloc (.cells #[.int .i64 0] 3))
  have hx2 := Box.new (w.alloc (.cells #[.int .i64 0] 3)) 3 [.int .i64 0]
  rw [asz] at hx2
  have HX2 := Lib.hid hx2
  clear hx2
  unfold PaidQ
  by_cases c : chkU l = 0
  · obtain ⟨hl, hok⟩ := chkU_ok c
    have HB := Lib.hid (paid_bd l hok n)
    have HS := Lib.hid (paid_succ l n)
    rw [c] at CK ⊢
    rw [if_pos rfl, if_pos rfl]
    clear c
    go_enter Try.func29, Try.ntmps29
    go_wp2_with fail
    refine (CK.out _ HB0.out).mono ?_
    rintro en w1 ⟨rfl, q1⟩
    have HB1 := Lib.hid (bt HB0.out q1)
    have HY1 := Lib.hid (HX1.out.next q1)
    have HY2 := Lib.hid (HX2.out.next q1)
    clear q1 HB0 HX1 HX2 CK
    go_wp2
    go_loopw [18] (fun i wr => ∃ k : Nat, k ≤ l.length ∧ i = .int .i64 k ∧ Below w.heap.size w wr ∧ Box wr w.heap.size 3 [.int .i64 (paid l n k)] ∧ Box wr (w.heap.size + 1) 3 [.int .i64 (unpaid l n k)]) (fun i _ => l.length - (intOf i).toNat)
    case atStart => exact ⟨0, Nat.zero_le _, rfl, HB1.out, HY1.out, HY2.out⟩
    case round =>
      obtain ⟨k, hk, rfl, hbw, hx, hy⟩ := hrel
      have HBW := Lib.hid hbw; have HX := Lib.hid hx; have HY := Lib.hid hy
      have m0 := hx.cell 0; have m1 := hy.cell 0
      have fr0 := hx.froz 0; have fr1 := hy.froz 0
      have lt1 := hy.lt
      simp only [List.getElem?_cons_zero] at m0 m1
      clear hx hy HB1 HY1 HY2
      by_cases hlt : k < l.length
      · obtain ⟨g, off, rfl, hbl, hc⟩ := H3.out (by omega)
        obtain ⟨q0, q1⟩ := eU_at hc k hlt
        have d0 := (hbw.cell (p := ⟨g, off + k * 2, none⟩) hbl).trans q0
        have d1 := (hbw.cell (p := ⟨g, off + k * 2 + 1, none⟩) hbl).trans q1
        have i1 : (k : Int) < (l.length : Int) := by omega
        have i0 : (0 : Int) ≤ (k : Int) := by omega
        have hb := HB.out k (by omega)
        have hok := hok l[k] (List.getElem_mem hlt)
        obtain ⟨s1, s2⟩ := HS.out k hlt
        obtain ⟨P, hP⟩ : ∃ P, paid l n k = P := ⟨_, rfl⟩
        obtain ⟨U, hU⟩ : ∃ U, unpaid l n k = U := ⟨_, rfl⟩
        rw [hP, hU] at hb s1 s2
        rw [hP] at m0 HX
        rw [hU] at m1 HY
        obtain ⟨s, hs⟩ : ∃ s, l[k] = s := ⟨_, rfl⟩
        rw [hs] at d0 d1 hok s1 s2
        clear hs hP hU hc HB HS H3 hbw q0 q1
        obtain ⟨p, q⟩ := s
        simp only at d0 d1 hok s1 s2
        unfold okU at hok
        have S1 := Lib.hid s1; have S2 := Lib.hid s2
        clear s1 s2
        have HA := Lib.hid (HBW.out.alloc HBW.out.size (.cells #[.int .i64 p, .int .i64 q] 61))
        have HX' := Lib.hid (HX.out.alloc (.cells #[.int .i64 p, .int .i64 q] 61))
        have HY' := Lib.hid (HY.out.alloc (.cells #[.int .i64 p, .int .i64 q] 61))
        have HD := Lib.hid (Box.new wr 61 [.int .i64 p, .int .i64 q])
        have b1 : P + q ≤ 9223372036854775807 := by omega
        have b2 : U + q ≤ 9223372036854775807 := by omega
        clear m0 m1 fr0 fr1
        by_cases c : p ≤ n
        · skip
          obtain ⟨e1, e2⟩ := S1.out c
          have E1 := Lib.hid e1; have E2 := Lib.hid e2
          clear e1 e2 S1 S2
          go_wp2_with fail
          generalize hW : wr.alloc (.cells #[.int .i64 p, .int .i64 q] 61) = W
          rw [hW] at HA HX' HY' HD
          clear hW
          have m0 := HX'.out.cell 0; have m1 := HY'.out.cell 0
          have fr0 := HX'.out.froz 0; have fr1 := HY'.out.froz 0
          have k0 := HD.out.cell 0; have k1 := HD.out.cell 1
          simp only [List.getElem?_cons_zero, List.getElem?_cons_succ] at m0 m1 k0 k1
          go_region
          go_wp2
          go_roundw
          case rel => exact ⟨k + 1, by omega, by first | rfl | go_num, bn (HA.out.setCell (by simp) _) 1, by rw [E1.out]; exact HX'.out.set 0 _, by rw [E2.out]; exact HY'.out.other _ _ _ (by omega)⟩
          case measure => simp [intOf]; omega
        · skip
          obtain ⟨e1, e2⟩ := S2.out (by omega)
          have E1 := Lib.hid e1; have E2 := Lib.hid e2
          clear e1 e2 S1 S2
          go_wp2_with fail
          generalize hW : wr.alloc (.cells #[.int .i64 p, .int .i64 q] 61) = W
          rw [hW] at HA HX' HY' HD
          clear hW
          have m0 := HX'.out.cell 0; have m1 := HY'.out.cell 0
          have fr0 := HX'.out.froz 0; have fr1 := HY'.out.froz 0
          have k0 := HD.out.cell 0; have k1 := HD.out.cell 1
          simp only [List.getElem?_cons_zero, List.getElem?_cons_succ] at m0 m1 k0 k1
          go_region
          go_wp2
          go_roundw
          case rel => exact ⟨k + 1, by omega, by first | rfl | go_num, bn (HA.out.setCell (by simp) _) 1, by rw [E1.out]; exact HX'.out.other _ _ _ (by omega), by rw [E2.out]; exact HY'.out.set 0 _⟩
          case measure => simp [intOf]; omega
      · have hkk : k = l.length := by omega
        subst hkk
        clear H3 HB HS
        have r0 := ((HX.out.set 0 (.int .i64 (paid l n l.length))).other (w.heap.size + 1) 0 (.int .i64 (unpaid l n l.length)) (by omega)).cell 0
        have r1 := ((HY.out.other w.heap.size 0 (.int .i64 (paid l n l.length)) (by omega)).set 0 (.int .i64 (unpaid l n l.length))).cell 0
        simp only [List.set_cons_zero, List.getElem?_cons_zero] at r0 r1
        have HBZ := Lib.hid ((HBW.out.setCell (p := ⟨w.heap.size, 0, none⟩) (Nat.le_refl _) (.int .i64 (paid l n l.length))).setCell (p := ⟨w.heap.size + 1, 0, none⟩) (by simp) (.int .i64 (unpaid l n l.length)))
        clear m0 m1 fr0 fr1
        have m0 := HX.out.cell 0; have m1 := HY.out.cell 0
        have fr0 := HX.out.froz 0; have fr1 := HY.out.froz 0
        simp only [List.getElem?_cons_zero] at m0 m1
        go_wp2
        refine bodyPost_ret (v := .tuple #[.int .i64 (paid l n l.length), .int .i64 (unpaid l n l.length), .int .i64 0]) (by simp [results, Try.results29, go_sem, r0, r1]) rfl ⟨rfl, HBZ.out⟩
  · rw [if_neg c, if_neg c]
    obtain ⟨E, hE⟩ : ∃ E, chkU l = E := ⟨_, rfl⟩
    rw [hE] at CK c ⊢
    have hz : (E == 0) = false := by simpa using c
    clear hE c H3
    go_enter Try.func29, Try.ntmps29
    go_wp2_with fail
    refine (CK.out _ HB0.out).mono ?_
    rintro en w1 ⟨rfl, q1⟩
    have HB1 := Lib.hid (bt HB0.out q1)
    have hx := HX1.out.next q1
    have hy := HX2.out.next q1
    have HX := Lib.hid hx; have HY := Lib.hid hy
    have m0 := hx.cell 0; have m1 := hy.cell 0
    have fr0 := hx.froz 0; have fr1 := hy.froz 0
    simp only [List.getElem?_cons_zero] at m0 m1
    have r0 := ((HX.out.set 0 (.int .i64 0)).other (w.heap.size + 1) 0 (.int .i64 0) (by omega)).cell 0
    have r1 := ((HY.out.other w.heap.size 0 (.int .i64 0) (by omega)).set 0 (.int .i64 0)).cell 0
    simp only [List.set_cons_zero, List.getElem?_cons_zero] at r0 r1
    have HBZ := Lib.hid ((HB1.out.setCell (p := ⟨w.heap.size, 0, none⟩) (Nat.le_refl _) (.int .i64 0)).setCell (p := ⟨w.heap.size + 1, 0, none⟩) (by simp) (.int .i64 0))
    clear q1 hx hy
    go_wp2
    refine bodyPost_ret (v := .tuple #[.int .i64 0, .int .i64 0, .int .i64 E]) (by simp [results, Try.results29, go_sem, r0, r1]) rfl ⟨rfl, HBZ.out⟩
set_option maxRecDepth 100000 in
set_option maxHeartbeats 4000000 in
theorem sameU_yes (v u : Value) (xs : List Due) (w : World) (h : RdE elU w v xs) (h' : RdE elU w u xs) : Calls Try.prog 34 #[v, u] w fun e w' => e = .returned (.bool true) ∧ Below w.heap.size w w' := by
  have hle := h.len_le
  obtain ⟨a, cap, rfl, h1, h2, h3⟩ := h
  obtain ⟨a', cap', rfl, h1', h2', h3'⟩ := h'
  have H3 := Lib.hid h3; have H3' := Lib.hid h3'; clear h3 h3'
  go_enter Try.func34, Try.ntmps34
  go_wp2
  go_loopw [5] (fun i wr => ∃ k : Nat, k ≤ xs.length ∧ i = .int .i64 k ∧ Below w.heap.size w wr) (fun i _ => xs.length - (intOf i).toNat)
  case atStart => exact ⟨0, Nat.zero_le _, rfl, br w⟩
  case round =>
    obtain ⟨k, hk, rfl, hbw⟩ := hrel
    have HBW := Lib.hid hbw
    by_cases hlt : k < xs.length
    · obtain ⟨b, off, rfl, hbl, hc⟩ := H3.out (by omega)
      obtain ⟨b', off', rfl, hbl', hc'⟩ := H3'.out (by omega)
      obtain ⟨q0, q1⟩ := eU_at hc k hlt
      obtain ⟨q2, q3⟩ := eU_at hc' k hlt
      have c0 := (hbw.cell (p := ⟨b, off + k * 2, none⟩) hbl).trans q0
      have c1 := (hbw.cell (p := ⟨b, off + k * 2 + 1, none⟩) hbl).trans q1
      have c2 := (hbw.cell (p := ⟨b', off' + k * 2, none⟩) hbl').trans q2
      have c3 := (hbw.cell (p := ⟨b', off' + k * 2 + 1, none⟩) hbl').trans q3
      have i1 : (k : Int) < (xs.length : Int) := by omega
      have i0 : (0 : Int) ≤ (k : Int) := by omega
      clear q0 q1 q2 q3 hc hc' hbw H3 H3'
      generalize xs[k].1 = x at *; generalize xs[k].2 = x2 at *
      go_wp2_with fail
      go_quiet (fail)
      go_wp2
      go_roundw
      case rel => exact ⟨k + 1, by omega, by go_num, bn HBW.out _⟩
      case measure => simp [intOf]; omega
    · have i1 : ¬ (k : Int) < (xs.length : Int) := by omega
      clear H3 H3'
      go_wp2
      go_ret
      exact ⟨rfl, HBW.out⟩
end Du
end Go.Proofs.Ytjicpflgkhdppaa
