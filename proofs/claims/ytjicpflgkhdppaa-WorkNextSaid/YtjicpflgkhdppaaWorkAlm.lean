/- Days of work: the almanac in memory. -/
import Derived.Test.YtjicpflgkhdppaaWorkCheckR
import Derived.Test.YtjicpflgkhdppaaWorkSort
import Derived.Maps.OwnSet
import Derived.BigQuiet
set_option linter.unusedSimpArgs false
set_option linter.unusedVariables false
namespace Go.Proofs.Ytjicpflgkhdppaa
open Go.RowKit
namespace Wk
open Dt
open Go.Maps (Keyed)
open Go.WideElems (Fit)
/-- a year's holidays, sorted, each once -/
def hol (rest : List Bool) (rules : List Rl) (y : Int) : List Int := cmpc (srt (days rest rules y))
theorem hol_mem (rest : List Bool) (rules : List Rl) (y n : Int) : n ∈ hol rest rules y ↔ n ∈ days rest rules y := by
  unfold hol; rw [cmpc_mem, srt_mem]
theorem hol_inc (rest : List Bool) (rules : List Rl) (y : Int) : (hol rest rules y).Pairwise (· < ·) := cmpc_inc _ (srt_sorted _)
theorem days_len (rest : List Bool) (rules : List Rl) (y : Int) : (days rest rules y).length ≤ rules.length := List.length_filterMap_le _ _
theorem hol_len (rest : List Bool) (rules : List Rl) (y : Int) : (hol rest rules y).length ≤ rules.length := by
  have a := cmpc_len (srt (days rest rules y))
  rw [srt_len] at a
  exact Nat.le_trans a (days_len _ _ _)
def R0 : Value → Option (DataW Unit × List MemPlace) := fun _ => some (.nil, [])
theorem keyLaw : Keyed Try.prog 3 := Maps.int_keyed Try.underlying3
abbrev almB (rest : List Bool) (v : Value) (M : Nat) : List Value := rest.map Value.bool ++ [v, .map (some M)]
structure Ents (w : World) (M : Nat) (rest : List Bool) (rules : List Rl) : Prop where
  ent : ∃ es clock, w.heap[M]? = some (.map es clock) ∧ Fit Try.prog 3 R0 es clock ∧ ∀ x ∈ es.toList, ∃ y : Int, x.key = .int .i64 y ∧ 0 ≤ y ∧ y ≤ 10000 ∧ RdE elZ w x.val (hol rest rules y)
structure Alm (w : World) (A M : Nat) (rest : List Bool) (v : Value) (rules : List Rl) : Prop where
  box : Box w A 87 (almB rest v M)
  rd : RdE elRl w v rules
  ents : Ents w M rest rules
section
variable {w w' : World} {A M : Nat} {rest : List Bool} {v : Value} {rules : List Rl}
theorem Ents.lt (h : Ents w M rest rules) : M < w.heap.size := by
  obtain ⟨es, clock, hb, _⟩ := h.ent
  exact (Array.getElem?_eq_some_iff.1 hb).1
theorem Ents.next (h : Ents w M rest rules) (hb : Below w.heap.size w w') : Ents w' M rest rules := by
  have hlt := h.lt
  obtain ⟨es, clock, h1, h2, h3⟩ := h.ent
  refine ⟨es, clock, (hb.block M hlt).trans h1, h2, fun x hx => ?_⟩
  obtain ⟨y, a, b, c, d⟩ := h3 x hx
  exact ⟨y, a, b, c, d.below hb⟩
theorem Alm.next (h : Alm w A M rest v rules) (hb : Below w.heap.size w w') : Alm w' A M rest v rules := ⟨h.box.next hb, h.rd.below hb, h.ents.next hb⟩
theorem Alm.dr (h : Alm w A M rest v rules) (n : Nat) : Alm (w.drewN n) A M rest v rules := h.next (bn (br _) n)
/-- what reads as a list still does where only a map was turned -/
theorem rd_turned {α : Type} {k : Nat} {enc : α → List Value} {u : Value} {xs : List α} {es : Array MapEntry} {clock : Nat} (h : Rd k enc w u xs) (henc : ∀ x : α, 0 < (enc x).length) (hM : w.heap[M]? = some (.map es clock)) (hg : w.grownBy w' (some M)) : Rd k enc w' u xs := by
  obtain ⟨a, cap, rfl, h1, h2, h3⟩ := h
  refine ⟨a, cap, rfl, h1, h2, fun hn => ?_⟩
  obtain ⟨b, off, rfl, hlt, hc⟩ := h3 hn
  have hne : b ≠ M := by
    intro e; subst e
    have h0 := henc (xs[0]'hn)
    have := hc 0 hn 0 ((enc (xs[0]'hn))[0]'h0) (by simp [h0])
    simp [World.cell?, hM] at this
  refine ⟨b, off, rfl, Nat.lt_of_lt_of_le hlt hg.size, fun i hi j u hu => ?_⟩
  rw [World.cell?_of_block (hg.block _ hlt (by simpa using hne))]
  exact hc i hi j u hu
theorem Alm.cell7 (h : Alm w A M rest v rules) (hr : rest.length = 7) : w.cell? ⟨A, 7, none⟩ = some v := by
  rw [h.box.cell, List.getElem?_append_right (by simp [hr])]; simp [hr]
theorem Alm.cell8 (h : Alm w A M rest v rules) (hr : rest.length = 7) : w.cell? ⟨A, 8, none⟩ = some (.map (some M)) := by
  rw [h.box.cell, List.getElem?_append_right (by simp [hr])]; simp [hr]
theorem Alm.cellR (h : Alm w A M rest v rules) (hr : rest.length = 7) (k : Nat) (hk : k < 7) : w.cell? ⟨A, k, none⟩ = some (.bool (rest.getD k false)) := by
  rw [h.box.cell, List.getElem?_append_left (by simp [hr, hk])]
  simp [List.getD_eq_getElem?_getD, hr, hk]
end
abbrev pA (A : Nat) : Value := .pointer (some ⟨A, 0, none⟩)
set_option maxHeartbeats 1000000 in
theorem rest_any (A M : Nat) (rest : List Bool) (hr : rest.length = 7) (v : Value) (rules : List Rl) (n : Int) (w : World) (h : Alm w A M rest v rules) (h1 : 1 ≤ n) (h2 : n ≤ 1000000000) :
    Calls Try.prog 68 #[pA A, .int .i64 n] w fun e w' => e = .returned (.bool (isRest rest n)) ∧ ∃ m, w' = w.drewN m := by
  obtain ⟨b1, b2⟩ := wd_bd n
  have hcell := h.cellR hr (wd n - 1).toNat (by omega)
  have CW : RowKit.Hid (∀ w, Calls Try.prog 53 #[.int .i64 n] w fun e w' => e = .returned (.int .i64 (wd n)) ∧ w = w') := Lib.hid (fun w => weekday_any n w h1 h2)
  have HR : RowKit.Hid (isRest rest n = rest.getD (wd n - 1).toNat false) := Lib.hid rfl
  clear h
  obtain ⟨d, hd⟩ : ∃ d, isRest rest n = d := ⟨_, rfl⟩
  rw [← HR.out, hd] at hcell
  rw [hd]
  clear HR hd
  obtain ⟨x, hx⟩ : ∃ x, wd n = x := ⟨_, rfl⟩
  rw [hx] at b1 b2 hcell CW
  clear hx
  obtain ⟨j, rfl⟩ : ∃ j : Nat, x = (j : Int) + 1 := ⟨(x - 1).toNat, by omega⟩
  have e1 : ((j : Int) + 1 - 1) = (j : Int) := by omega
  rw [e1, Int.toNat_natCast] at hcell
  have hj : j < 7 := by omega
  go_enter Try.func68, Try.ntmps68
  go_wp2_with fail
  go_quiet ((go_at_call 53; exact qz (CW.out _)))
  go_wp2
  go_ret
  exact ⟨by first | rfl | (simp; done), _, rfl⟩
end Wk
end Go.Proofs.Ytjicpflgkhdppaa
