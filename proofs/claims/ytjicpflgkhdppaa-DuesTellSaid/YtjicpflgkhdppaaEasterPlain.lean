/- Easter: plain facts on whole numbers; the two reckonings are held against each other year by year. -/
import Derived.Test.YtjicpflgkhdppaaWeekPlain
set_option linter.unusedSimpArgs false
set_option linter.unusedVariables false
namespace Go.Proofs.Ytjicpflgkhdppaa
namespace Dt

def eH (y : Int) : Int := (19 * (y % 19) + y / 100 - y / 100 / 4 - (y / 100 - (y / 100 + 8) / 25 + 1) / 3 + 15) % 30
def eL (y : Int) : Int := (32 + 2 * (y / 100 % 4) + 2 * (y % 100 / 4) - eH y - y % 100 % 4) % 7
def eM (y : Int) : Int := (y % 19 + 11 * eH y + 22 * eL y) / 451
def eP (y : Int) : Int := eH y + eL y - 7 * eM y + 114
/-- the program's reckoning -/
def easter (y : Int) : Int := raw y (eP y / 31) (eP y % 31 + 1)
def eEp0 (y : Int) : Int := (11 * (y % 19 + 1) + 20 + ((8 * (y / 100 + 1) + 5) / 25 - 5) - (3 * (y / 100 + 1) / 4 - 12)) % 30
def eEp (y : Int) : Int := if (eEp0 y = 25 ∧ 11 < y % 19 + 1) ∨ eEp0 y = 24 then eEp0 y + 1 else eEp0 y
def eFull (y : Int) : Int := if 44 - eEp y < 21 then 44 - eEp y + 30 else 44 - eEp y
def eMarch (y : Int) : Int := raw y 3 1 + eFull y - 1
/-- the document's -/
def easterR (y : Int) : Int := eMarch y + 1 + (7 - wd (eMarch y + 1))
def eOk (y : Int) : Bool :=
  decide (easter y = easterR y ∧ raw y 3 22 ≤ easter y ∧ easter y ≤ raw y 4 25 ∧ wd (easter y) = 7 ∧ (3 ≤ eP y / 31 ∧ eP y / 31 ≤ 4) ∧ (0 ≤ eH y ∧ eH y ≤ 29) ∧ (0 ≤ eL y ∧ eL y ≤ 6) ∧ 0 ≤ eM y ∧ eM y ≤ 1 ∧ 0 ≤ eFull y ∧ eFull y ≤ 60)
def eGap (y : Int) : Bool := let g := easter (y + 1) - easter y; (g == 350) || (g == 357) || (g == 378) || (g == 385)
def eChk (k : Nat) : Bool := if k < 8417 then eOk (1583 + (k : Int)) && (if k < 8416 then eGap (1583 + (k : Int)) else true) else true
/-- a check of 2^depth numbers from lo on -/
def allIn (f : Nat → Bool) : (depth lo : Nat) → Bool
  | 0, lo => f lo
  | d + 1, lo => allIn f d lo && allIn f d (lo + 2 ^ d)
theorem allIn_spec {f : Nat → Bool} : ∀ (d lo : Nat), allIn f d lo = true → ∀ k, lo ≤ k → k < lo + 2 ^ d → f k = true := by
  intro d
  induction d with
  | zero =>
    intro lo h k h1 h2
    have : k = lo := by simp at h2; omega
    rw [this]; exact h
  | succ d ih =>
    intro lo h k h1 h2
    simp only [allIn, Bool.and_eq_true] at h
    rcases (show k < lo + 2 ^ d ∨ lo + 2 ^ d ≤ k by omega) with h3 | h3
    · exact ih lo h.1 k h1 h3
    · exact ih (lo + 2 ^ d) h.2 k h3 (by rw [Nat.pow_succ] at h2; omega)
theorem eAll0 : allIn eChk 11 0 = true := by decide +kernel
theorem eAll1 : allIn eChk 11 2048 = true := by decide +kernel
theorem eAll2 : allIn eChk 11 4096 = true := by decide +kernel
theorem eAll3 : allIn eChk 11 6144 = true := by decide +kernel
theorem eAll4 : allIn eChk 8 8192 = true := by decide +kernel
theorem eChk_all (k : Nat) (h : k < 8417) : eChk k = true := by
  rcases (show k < 2048 ∨ (2048 ≤ k ∧ k < 4096) ∨ (4096 ≤ k ∧ k < 6144) ∨ (6144 ≤ k ∧ k < 8192) ∨ 8192 ≤ k by omega) with a | a | a | a | a
  · exact allIn_spec 11 0 eAll0 k (by omega) (by simpa using a)
  · exact allIn_spec 11 2048 eAll1 k a.1 (by simpa using a.2)
  · exact allIn_spec 11 4096 eAll2 k a.1 (by simpa using a.2)
  · exact allIn_spec 11 6144 eAll3 k a.1 (by simpa using a.2)
  · exact allIn_spec 8 8192 eAll4 k a (by show k < 8192 + 256; omega)
theorem easter_ok (y : Int) (h1 : 1583 ≤ y) (h2 : y ≤ 9999) : easter y = easterR y ∧ raw y 3 22 ≤ easter y ∧ easter y ≤ raw y 4 25 ∧ wd (easter y) = 7 ∧ (3 ≤ eP y / 31 ∧ eP y / 31 ≤ 4) ∧ (0 ≤ eH y ∧ eH y ≤ 29) ∧ (0 ≤ eL y ∧ eL y ≤ 6) ∧ 0 ≤ eM y ∧ eM y ≤ 1 ∧ 0 ≤ eFull y ∧ eFull y ≤ 60 := by
  have h := eChk_all (y - 1583).toNat (by omega)
  unfold eChk at h
  rw [if_pos (by omega), Bool.and_eq_true, show 1583 + ((y - 1583).toNat : Int) = y by omega] at h
  exact of_decide_eq_true h.1
theorem easter_gap (y : Int) (h1 : 1583 ≤ y) (h2 : y < 9999) : easter (y + 1) - easter y = 350 ∨ easter (y + 1) - easter y = 357 ∨ easter (y + 1) - easter y = 378 ∨ easter (y + 1) - easter y = 385 := by
  have h := eChk_all (y - 1583).toNat (by omega)
  unfold eChk at h
  rw [if_pos (by omega), Bool.and_eq_true, if_pos (by omega), show 1583 + ((y - 1583).toNat : Int) = y by omega] at h
  have h := h.2
  simp only [eGap, Bool.or_eq_true, beq_iff_eq] at h
  omega
end Dt
end Go.Proofs.Ytjicpflgkhdppaa
