/- Rings: a text is opened. -/
import Derived.Test.YtmeoeihfgmmgmaaRingSeal
import Derived.Deep.RegionHeld3
import Derived.OwnWalk
set_option linter.unusedVariables false
namespace Go.Proofs.Ytmeoeihfgmmgmaa
open Go.RowKit
namespace Rg
open Tg
theorem str_ne {a b : ByteArray} (h : a ≠ b) : (a.toList == b.toList) = false := by
  rw [← Bool.not_eq_true, beq_iff_eq]
  intro e
  rw [ByteArray.toList_eq, ByteArray.toList_eq] at e
  apply h
  cases a; cases b
  congr 1
  exact Array.toList_inj.1 e
def bodyOf (t : ByteArray) : ByteArray := t.extract 0 (t.size - 8)
def firstB (t : ByteArray) : Int := ((t.data.toList.getD 0 0).toNat : Int)
def openF (xs : List Ep) (t : ByteArray) : ByteArray × Int × Int := if chk xs ≠ 0 then (emptyS, 0, chk xs) else if t.size < 9 ∨ 120 < t.size then (emptyS, 0, 1) else match xs[atN (firstB t) xs]? with | none => (emptyS, 0, 5) | some x => if markB x.2.1 x.2.2 (bodyOf t) = t then ((bodyOf t).extract 1 (t.size - 8), firstB t, 0) else (emptyS, 0, 9)
def OpenQ (r : ByteArray × Int × Int) (w : World) (e : Ending) (w' : World) : Prop := e = .returned (.tuple #[.string r.1, .int .i64 r.2.1, .int .i64 r.2.2]) ∧ Below w.heap.size w w'
theorem open_cases (xs : List Ep) (t : ByteArray) : (chk xs ≠ 0 ∧ openF xs t = (emptyS, 0, chk xs)) ∨ (chk xs = 0 ∧ t.size < 9 ∧ openF xs t = (emptyS, 0, 1)) ∨ (chk xs = 0 ∧ 120 < t.size ∧ openF xs t = (emptyS, 0, 1)) ∨ (chk xs = 0 ∧ 9 ≤ t.size ∧ t.size ≤ 120 ∧ atN (firstB t) xs = xs.length ∧ openF xs t = (emptyS, 0, 5)) ∨ (∃ h : atN (firstB t) xs < xs.length, chk xs = 0 ∧ 9 ≤ t.size ∧ t.size ≤ 120 ∧ markB xs[atN (firstB t) xs].2.1 xs[atN (firstB t) xs].2.2 (bodyOf t) = t ∧ openF xs t = ((bodyOf t).extract 1 (t.size - 8), firstB t, 0)) ∨ (∃ h : atN (firstB t) xs < xs.length, chk xs = 0 ∧ 9 ≤ t.size ∧ t.size ≤ 120 ∧ markB xs[atN (firstB t) xs].2.1 xs[atN (firstB t) xs].2.2 (bodyOf t) ≠ t ∧ openF xs t = (emptyS, 0, 9)) := by
  by_cases hc : chk xs = 0
  · by_cases h9 : t.size < 9
    · exact .inr (.inl ⟨hc, h9, by unfold openF; rw [if_neg (fun h => h hc), if_pos (.inl h9)]⟩)
    · by_cases h120 : 120 < t.size
      · exact .inr (.inr (.inl ⟨hc, h120, by unfold openF; rw [if_neg (fun h => h hc), if_pos (.inr h120)]⟩))
      · have hle := atN_le (firstB t) xs
        by_cases ha : atN (firstB t) xs = xs.length
        · exact .inr (.inr (.inr (.inl ⟨hc, by omega, by omega, ha, by unfold openF; rw [if_neg (fun h => h hc), if_neg (by omega), List.getElem?_eq_none (by omega)]⟩)))
        · have hlt : atN (firstB t) xs < xs.length := by omega
          by_cases hm : markB xs[atN (firstB t) xs].2.1 xs[atN (firstB t) xs].2.2 (bodyOf t) = t
          · exact .inr (.inr (.inr (.inr (.inl ⟨hlt, hc, by omega, by omega, hm, by unfold openF; rw [if_neg (fun h => h hc), if_neg (by omega), List.getElem?_eq_getElem hlt]; simp only [if_pos hm]⟩))))
          · exact .inr (.inr (.inr (.inr (.inr ⟨hlt, hc, by omega, by omega, hm, by unfold openF; rw [if_neg (fun h => h hc), if_neg (by omega), List.getElem?_eq_getElem hlt]; simp only [if_neg hm]⟩))))
  · exact .inl ⟨hc, by unfold openF; rw [if_pos hc]⟩
theorem first_at (t : ByteArray) (hz : 0 < t.size) : IntKind.i64.wrap ((t[0]'hz).toNat : Int) = firstB t := by
  have e : t.data.toList.getD 0 0 = t[0]'hz := by
    rw [List.getD_eq_getElem?_getD, List.getElem?_eq_getElem (by simpa using hz)]; rfl
  unfold firstB
  rw [e, IntKind.wrap_i64]
  have := (t[0]'hz).toNat_lt
  omega
set_option maxHeartbeats 2000000 in
theorem open_any (v : Value) (xs : List Ep) (t : ByteArray) (hss : t.size ≤ 9223372036854775807) (w : World) (h : Rd 3 eE w v xs) : Calls Try.prog 17 #[v, .string t] w (OpenQ (openF xs t) w) := by
  have H := Lib.hid h
  have HCK := Lib.hid (check_any v xs)
  rcases open_cases xs t with ⟨hc, hF⟩ | ⟨hc, h9, hF⟩ | ⟨hc, h9, hF⟩ | ⟨hc, h9, h120, ha, hF⟩ | ⟨hlt, hc, h9, h120, hm, hF⟩ | ⟨hlt, hc, h9, h120, hm, hF⟩
  · have HF := Lib.hid hF; have hb : (chk xs != 0) = true := by simp [hc]
    generalize chk xs = C at *
    clear hF
    go_enter Try.func17, Try.ntmps17
    go_wp2_with fail
    refine (HCK.out _ H.out).mono ?_
    rintro en w1 ⟨rfl, hb1⟩
    go_wp2
    go_ret3
    exact ⟨by rw [HF.out]; rfl, hb1⟩
  · have HF := Lib.hid hF
    have hs' : (t.size : Int) < 9 := by omega
    rw [hc] at HCK
    clear hF hc
    go_enter Try.func17, Try.ntmps17
    go_wp2_with fail
    refine (HCK.out _ H.out).mono ?_
    rintro en w1 ⟨rfl, hb1⟩
    go_wp2
    go_ret3
    exact ⟨by rw [HF.out]; rfl, hb1⟩
  · have HF := Lib.hid hF
    have hs' : ¬ (t.size : Int) < 9 := by omega
    have hs2 : (120 : Int) < (t.size : Int) := by omega
    rw [hc] at HCK
    clear hF hc
    go_enter Try.func17, Try.ntmps17
    go_wp2_with fail
    refine (HCK.out _ H.out).mono ?_
    rintro en w1 ⟨rfl, hb1⟩
    go_wp2
    go_ret3
    exact ⟨by rw [HF.out]; rfl, hb1⟩
  · have HF := Lib.hid hF
    have hs' : ¬ (t.size : Int) < 9 := by omega
    have hs2 : ¬ (120 : Int) < (t.size : Int) := by omega
    have hA := at_any (firstB t) v xs
    rw [if_pos ha] at hA
    rw [hc] at HCK
    have HA := Lib.hid hA
    have hz : 0 < t.size := by omega
    have e0 : IntKind.i64.wrap ((t[0]'hz).toNat : Int) = firstB t := first_at t hz
    generalize firstB t = no at *
    clear hF hc ha hA
    go_enter Try.func17, Try.ntmps17
    go_wp2_with fail
    refine (HCK.out _ H.out).mono ?_
    rintro en w1 ⟨rfl, hb1⟩
    go_wp2_with fail
    refine (HA.out _ (H.out.below hb1)).mono ?_
    rintro en w2 ⟨rfl, hb2⟩
    go_wp2
    go_ret3
    exact ⟨by rw [HF.out]; rfl, bt hb1 hb2⟩
  · have hs' : ¬ (t.size : Int) < 9 := by omega
    have hs2 : ¬ (120 : Int) < (t.size : Int) := by omega
    have hA := at_any (firstB t) v xs
    rw [if_neg (by omega)] at hA
    obtain ⟨n, hn⟩ : ∃ n, atN (firstB t) xs = n := ⟨_, rfl⟩
    simp only [hn] at hlt hm hA
    have hi8 : (n : Int) < (xs.length : Int) := by omega
    rw [hc] at HCK
    have HA := Lib.hid hA
    have hz : 0 < t.size := by omega
    have e0 : IntKind.i64.wrap ((t[0]'hz).toNat : Int) = firstB t := first_at t hz
    have HF := Lib.hid hF
    generalize firstB t = no at *
    obtain ⟨ad, cap, rfl, h1, h2, h3⟩ := h
    obtain ⟨g, off, rfl, hbl, hcc⟩ := h3 (by omega)
    have hl3 : n < xs.length := by omega
    have q := eE_at hcc n hl3
    obtain ⟨ka, hka⟩ : ∃ ka, xs[n].2.1 = ka := ⟨_, rfl⟩
    obtain ⟨kb, hkb⟩ : ∃ kb, xs[n].2.2 = kb := ⟨_, rfl⟩
    generalize xs[n].1 = nn at *
    rw [hka, hkb] at q hm
    obtain ⟨q0, q1, q2⟩ := q
    have hbs : (bodyOf t).size ≤ 1000 := by unfold bodyOf; simp; omega
    have HM := Lib.hid (marked_any ka kb (bodyOf t) hbs)
    rw [hm] at HM
    unfold bodyOf at HM HF
    have hw8 : IntKind.i64.wrap ((t.size : Int) - 8) = ((t.size - 8 : Nat) : Int) := by rw [IntKind.wrap_i64]; omega
    clear hF hc hA hcc h3 hka hkb hm hbs
    go_enter Try.func17, Try.ntmps17
    go_wp2_with fail
    refine (HCK.out _ H.out).mono ?_
    rintro en w1 ⟨rfl, hb1⟩
    go_wp2_with fail
    refine (HA.out _ (H.out.below hb1)).mono ?_
    rintro en w2 ⟨rfl, hb2⟩
    have hb12 := bt hb1 hb2
    have c0 := (hb12.cell (p := ⟨g, off + n * 3, none⟩) hbl).trans q0
    have c1 := (hb12.cell (p := ⟨g, off + n * 3 + 1, none⟩) hbl).trans q1
    have c2 := (hb12.cell (p := ⟨g, off + n * 3 + 2, none⟩) hbl).trans q2
    have HB12 := Lib.hid hb12
    clear hb1 hb2 hb12 q0 q1 q2
    go_wp2_with fail
    refine (HM.out _).mono ?_
    rintro en w3 ⟨rfl, hb3⟩
    go_wp2_with fail
    go_ret3
    exact ⟨by rw [HF.out]; rfl, bt HB12.out hb3⟩
  · have hs' : ¬ (t.size : Int) < 9 := by omega
    have hs2 : ¬ (120 : Int) < (t.size : Int) := by omega
    have hA := at_any (firstB t) v xs
    rw [if_neg (by omega)] at hA
    obtain ⟨n, hn⟩ : ∃ n, atN (firstB t) xs = n := ⟨_, rfl⟩
    simp only [hn] at hlt hm hA
    have hi8 : (n : Int) < (xs.length : Int) := by omega
    rw [hc] at HCK
    have HA := Lib.hid hA
    have hz : 0 < t.size := by omega
    have e0 : IntKind.i64.wrap ((t[0]'hz).toNat : Int) = firstB t := first_at t hz
    have HF := Lib.hid hF
    generalize firstB t = no at *
    obtain ⟨ad, cap, rfl, h1, h2, h3⟩ := h
    obtain ⟨g, off, rfl, hbl, hcc⟩ := h3 (by omega)
    have hl3 : n < xs.length := by omega
    have q := eE_at hcc n hl3
    obtain ⟨ka, hka⟩ : ∃ ka, xs[n].2.1 = ka := ⟨_, rfl⟩
    obtain ⟨kb, hkb⟩ : ∃ kb, xs[n].2.2 = kb := ⟨_, rfl⟩
    generalize xs[n].1 = nn at *
    rw [hka, hkb] at q hm
    obtain ⟨q0, q1, q2⟩ := q
    have hbs : (bodyOf t).size ≤ 1000 := by unfold bodyOf; simp; omega
    have HM := Lib.hid (marked_any ka kb (bodyOf t) hbs)
    obtain ⟨M, hM⟩ : ∃ M, markB ka kb (bodyOf t) = M := ⟨_, rfl⟩
    rw [hM] at HM hm
    have hq : (M.toList == t.toList) = false := str_ne hm
    clear hM
    unfold bodyOf at HM
    have hw8 : IntKind.i64.wrap ((t.size : Int) - 8) = ((t.size - 8 : Nat) : Int) := by rw [IntKind.wrap_i64]; omega
    clear hF hc hA hcc h3 hka hkb hm hbs
    go_enter Try.func17, Try.ntmps17
    go_wp2_with fail
    refine (HCK.out _ H.out).mono ?_
    rintro en w1 ⟨rfl, hb1⟩
    go_wp2_with fail
    refine (HA.out _ (H.out.below hb1)).mono ?_
    rintro en w2 ⟨rfl, hb2⟩
    have hb12 := bt hb1 hb2
    have c0 := (hb12.cell (p := ⟨g, off + n * 3, none⟩) hbl).trans q0
    have c1 := (hb12.cell (p := ⟨g, off + n * 3 + 1, none⟩) hbl).trans q1
    have c2 := (hb12.cell (p := ⟨g, off + n * 3 + 2, none⟩) hbl).trans q2
    have HB12 := Lib.hid hb12
    clear hb1 hb2 hb12 q0 q1 q2
    go_wp2_with fail
    refine (HM.out _).mono ?_
    rintro en w3 ⟨rfl, hb3⟩
    go_wp2
    go_ret3
    exact ⟨by rw [HF.out]; rfl, bt HB12.out hb3⟩
end Rg
end Go.Proofs.Ytmeoeihfgmmgmaa
