/- What is shared out: rests, and how they are held against each other. -/
import Derived.Test.YtblbhkcnmkcdfaaShareW
import Derived.Test.YtblbhkcnmkcdfaaStableS
set_option linter.unusedSimpArgs false
set_option linter.unusedVariables false
namespace Go.Proofs.Ytblbhkcnmkcdfaa
open Go.RowKit
namespace Sh
open Stb
theorem nan_any (x : Int) (w : World) : Calls Try.prog 28 #[.int .i64 x] w fun e w' => e = .returned (.bool false) ∧ w = w' := by
  have h : (x != x) = false := by simp
  go_enter Try.func28, Try.ntmps28
  go_wp2
  go_ret
  exact ⟨by first | rfl | (simp; done), by first | rfl | trivial⟩
def cmpI (x y : Int) : Int := if x < y then -1 else if y < x then 1 else 0
theorem cmp_any (x y : Int) (w : World) : Calls Try.prog 23 #[.int .i64 x, .int .i64 y] w fun e w' => e = .returned (.int .i64 (cmpI x y)) ∧ w = w' := by
  have HN := Lib.hid nan_any
  unfold cmpI
  rcases Int.lt_trichotomy x y with h | h | h
  · rw [if_pos h]
    go_enter Try.func23, Try.ntmps23
    go_wp2_with (go_at_call 28; (with_reducible refine (HN.out _ _).mono ?_); rintro en w1 ⟨rfl, rfl⟩)
    go_ret
    exact ⟨rfl, by first | rfl | trivial⟩
  · subst h
    rw [if_neg (by omega), if_neg (by omega)]
    have h1 : ¬ x < x := by omega
    have h2 : ¬ x > x := by omega
    go_enter Try.func23, Try.ntmps23
    go_wp2_with (go_at_call 28; (with_reducible refine (HN.out _ _).mono ?_); rintro en w1 ⟨rfl, rfl⟩)
    go_ret
    exact ⟨rfl, by first | rfl | trivial⟩
  · rw [if_neg (by omega), if_pos h]
    have h1 : ¬ x < y := by omega
    go_enter Try.func23, Try.ntmps23
    go_wp2_with (go_at_call 28; (with_reducible refine (HN.out _ _).mono ?_); rintro en w1 ⟨rfl, rfl⟩)
    go_ret
    exact ⟨rfl, by first | rfl | trivial⟩
/-- what the closures find in memory -/
structure Caught (w : World) (b0 b1 b2 gw ow n cap : Nat) (t S : Int) (ws : List Int) : Prop where
  c0 : w.cell? ⟨b0, 0, none⟩ = some (.int .i64 t)
  c1 : w.cell? ⟨b1, 0, none⟩ = some (.slice (some ⟨gw, ow, none⟩) n cap)
  c2 : w.cell? ⟨b2, 0, none⟩ = some (.int .i64 S)
  cw : ∀ i, i < n → w.cell? ⟨gw, ow + i, none⟩ = some (.int .i64 (wv ws i))
theorem Caught.keep {w w' : World} {b0 b1 b2 gw ow n cap : Nat} {t S : Int} {ws : List Int} (h : Caught w b0 b1 b2 gw ow n cap t S ws) {bs : List Nat} (hk : KeptB bs w w') (h0 : b0 ∉ bs) (h1 : b1 ∉ bs) (h2 : b2 ∉ bs) (h3 : gw ∉ bs) : Caught w' b0 b1 b2 gw ow n cap t S ws :=
  ⟨hk.keep h.c0 h0, hk.keep h.c1 h1, hk.keep h.c2 h2, fun i hi => hk.keep (h.cw i hi) h3⟩
abbrev QuietZ (x : Int) (w : World) (e : Ending) (w' : World) : Prop := e = .returned (.int .i64 x) ∧ ∃ m, w' = w.drewN m
set_option maxRecDepth 100000 in
set_option maxHeartbeats 2000000 in
theorem rest_any (b0 b1 b2 gw ow n cap : Nat) (t S : Int) (ws : List Int) (w : World) (h : Caught w b0 b1 b2 gw ow n cap t S ws) (x : Int) (h0 : 0 ≤ x) (hx : x < n) (hn : n ≤ 32) (hS : 0 < S) (hS2 : S ≤ 3200000) (hp : 0 ≤ t * wv ws x.toNat ∧ t * wv ws x.toNat ≤ 10000000000) :
    Calls Try.prog 20 #[.int .i64 x, .pointer (some ⟨b0, 0, none⟩), .pointer (some ⟨b1, 0, none⟩), .pointer (some ⟨b2, 0, none⟩)] w (QuietZ (rem t ws S x.toNat) w) := by
  obtain ⟨c0, c1, c2, cw⟩ := h
  obtain ⟨i, rfl⟩ : ∃ i : Nat, x = i := ⟨x.toNat, by omega⟩
  rw [Int.toNat_natCast] at hp ⊢
  have d0 := cw i (by omega)
  unfold rem
  clear cw
  generalize wv ws i = y at *
  obtain ⟨p, hpp⟩ : ∃ p, t * y = p := ⟨_, rfl⟩
  rw [hpp] at hp ⊢
  obtain ⟨p0, p1⟩ := hp
  have i0 : (0 : Int) ≤ (i : Int) := by omega
  go_enter Try.func20, Try.ntmps20
  go_wp2_with fail
  go_quiet (fail)
  go_wp2
  go_ret
  exact ⟨by first | rfl | (simp; done), nq, rfl⟩
set_option maxRecDepth 100000 in
set_option maxHeartbeats 2000000 in
theorem hold_any (bc b0 b1 b2 gw ow n cap : Nat) (t S : Int) (ws : List Int) (w : World) (hb : w.cell? ⟨bc, 0, none⟩ = some (.func (.func 20) #[] #[.pointer (some ⟨b0, 0, none⟩), .pointer (some ⟨b1, 0, none⟩), .pointer (some ⟨b2, 0, none⟩)]))
    (h : Caught w b0 b1 b2 gw ow n cap t S ws) (x y : Int) (h0 : 0 ≤ x) (hx : x < n) (k0 : 0 ≤ y) (ky : y < n) (hn : n ≤ 32) (hS : 0 < S) (hS2 : S ≤ 3200000) (hp : ∀ i, 0 ≤ t * wv ws i ∧ t * wv ws i ≤ 10000000000) :
    Calls Try.prog 22 #[.int .i64 x, .int .i64 y, .pointer (some ⟨bc, 0, none⟩)] w (QuietZ (cmpK t ws S x y) w) := by
  have hd : ∀ m, Caught (w.drewN m) b0 b1 b2 gw ow n cap t S ws := fun m => ⟨h.c0, h.c1, h.c2, h.cw⟩
  have RX := Lib.hid (fun m => rest_any b0 b1 b2 gw ow n cap t S ws (w.drewN m) (hd m) x h0 hx hn hS hS2 (hp _))
  have RY := Lib.hid (fun m => rest_any b0 b1 b2 gw ow n cap t S ws (w.drewN m) (hd m) y k0 ky hn hS hS2 (hp _))
  have CI := Lib.hid cmp_any
  have HK : RowKit.Hid (cmpI (rem t ws S y.toNat) (rem t ws S x.toNat) = cmpK t ws S x y) := Lib.hid rfl
  generalize rem t ws S x.toNat = rx at *
  generalize rem t ws S y.toNat = ry at *
  generalize cmpK t ws S x y = r at *
  clear h hd hp
  go_enter Try.func22, Try.ntmps22
  go_wp2_with fail
  go_quiet ((first | (go_at_call 20; first | (with_reducible exact qf (RY.out _)) | (with_reducible exact qe (RY.out _)) | (with_reducible exact qf (RX.out _)) | (with_reducible exact qe (RX.out _))) | (go_at_call 23; first | (with_reducible exact qz (CI.out _ _ _)) | (with_reducible exact qa (CI.out _ _ _)))))
  rw [HK.out]
  go_wp2
  go_ret
  exact ⟨by first | rfl | (simp; done), nq, rfl⟩
end Sh
end Go.Proofs.Ytblbhkcnmkcdfaa
