/- Gate: plain laws of who is admitted. -/
import Derived.Test.YtdfdjampodkpgaaDoorGatePlain
import Derived.Test.YtdfdjampodkpgaaDoorJRingR
import Derived.Test.YtdfdjampodkpgaaDoorJRing
set_option linter.unusedSimpArgs false
set_option linter.unusedVariables false
namespace Go.Proofs.YtdfdjampodkpgaaDoor
open Go.RowKit
namespace Gt
open Sn Pa Rg Tg
theorem rep_ok {p : Ps} {l : List Sp} (h : repE p l = 0) : passE p l = 0 ∧ passE (repP p) l = 0 := by
  unfold repE at h
  by_cases c : passE p l = 0
  · rw [if_pos c] at h
    by_cases c9 : p.ser = 999
    · rw [if_pos c9] at h; cases h
    · obtain ⟨⟨g1, g2, g3, g4, g5, g6, g7, g8⟩, hr⟩ := passE_ok.1 c
      exact ⟨c, passE_ok.2 ⟨⟨g1, g2, g3, g4, g5, g6, (show 1 ≤ p.ser + 1 by omega), (show p.ser + 1 ≤ 999 by omega)⟩, hr⟩⟩
  · rw [if_neg c] at h; exact absurd h c
theorem pas_one (p : Ps) (a : Option Addr) (c : Nat) (l : List Sp) (h : passE p l = 0) : pasE (pls [⟨p, a, c, l⟩]) = 0 := by
  show (if passE p l ≠ 0 then passE p l else if hasI p.id [] = true then 6 else 0) = 0
  rw [h]; rfl
theorem at_one (p : Ps) (a : Option Addr) (c : Nat) (l : List Sp) : atX [⟨p, a, c, l⟩] p.id = ((0 : Nat) : Int) := by
  unfold atX findI findN isX
  simp
theorem old_q {eps : List Ep} {p : Ps} {l : List Sp} (h : (wrF eps p l).2 = 0) (hr : repE p l = 0) (a : Option Addr) (c : Nat) (n z : Int) : admF eps [⟨repP p, a, c, l⟩] (wrF eps p l).1 n z = 4 := by
  unfold admF rawG
  rw [pas_one _ _ _ _ (rep_ok hr).2, rd_wr h, if_neg (by simp), if_neg (by simp)]
  have hat := at_one (repP p) a c l
  rw [show admT (tkOf p, l) [⟨repP p, a, c, l⟩] n z = _ from admT_some (r := (tkOf p, l)) (k := 0) (by simp) hat]
  exact if_pos (show p.ser + 1 ≠ p.ser by omega)
theorem old_less {eps : List Ep} {p : Ps} {l : List Sp} (h : (wrF eps p l).2 = 0) (a : Option Addr) (c : Nat) (z n : Int) : ∃ m, ∃ hm : eps.length = m + 1, m < 8 ∧ dropF eps (eps[m]'(by omega)).1 = (eps.eraseIdx m, 0) ∧ admF (eps.eraseIdx m) [⟨p, a, c, l⟩] (wrF eps p l).1 n z = 5 := by
  obtain ⟨h1, h2, h3, m, hm, e⟩ := wr_ok h
  obtain ⟨h8, hr, hp⟩ := chk_spec h3
  have hat : atN (eps[m]'(by omega)).1 eps = m := atN_self eps m (by omega) hp
  refine ⟨m, hm, by omega, ?_, ?_⟩
  · rcases drop_cases eps (eps[m]'(by omega)).1 with ⟨hc, _⟩ | ⟨_, hc, _⟩ | ⟨_, _, _, he⟩
    · exact absurd h3 hc
    · omega
    · rw [he, hat]
  · have hl : atN (eps[m]'(by omega)).1 (eps.eraseIdx m) = (eps.eraseIdx m).length := drop_no h3 m (by omega)
    unfold admF rawG
    rw [pas_one _ _ _ _ h1, e, rd_lost h2 (chk_erase h3 m) _ (hr _ (List.getElem_mem (by omega))) hl]
    rfl
theorem pasG_apart : ∀ (l done : List Pl), pasG done l = 0 → ∀ (j : Nat) (h : j < l.length), hasI (l[j].1.id) (done ++ l.take j) = false
  | [], _, _, j, h => by simp at h
  | y :: l, done, h, j, hj => by
    unfold pasG at h
    by_cases c : passE y.1 y.2 ≠ 0
    · rw [if_pos c] at h; exact absurd h c
    · rw [if_neg c] at h
      by_cases c2 : hasI y.1.id done = true
      · rw [if_pos c2] at h; cases h
      · rw [if_neg c2] at h
        cases j with
        | zero => simpa using c2
        | succ j =>
          have := pasG_apart l (done ++ [y]) h j (by simpa using hj)
          simpa using this
theorem at_self {xs : List Px} (h : pasE (pls xs) = 0) (i : Nat) (hi : i < xs.length) : atX xs xs[i].p.id = (i : Int) := by
  have hp := pasG_apart (pls xs) [] h i (by simpa using hi)
  have e1 : (pls xs)[i]'(by simpa using hi) = xs[i].pl := by simp
  have e2 : (pls xs).take i = pls (xs.take i) := by simp
  rw [e1, List.nil_append, e2] at hp
  exact admT_at (r := (⟨xs[i].p.id, 0, 0, 0⟩, [])) (n := 0) (z := 0) hi rfl ((hasI_take xs[i].p.id xs i (by omega)).1 hp)
theorem latest {eps : List Ep} {xs : List Px} (i : Nat) (hi : i < xs.length) (h : (wrF eps xs[i].p xs[i].l).2 = 0) (n z : Int) (hp : pasE (pls xs) = 0) : admF eps xs (wrF eps xs[i].p xs[i].l).1 n z = if rawB xs[i].p xs[i].l n z = true then 0 else 3 := by
  have hat := at_self hp i hi
  unfold admF rawG
  rw [hp, rd_wr h, if_neg (by simp), if_neg (by simp)]
  rw [show admT (tkOf xs[i].p, xs[i].l) xs n z = _ from admT_some (r := (tkOf xs[i].p, xs[i].l)) hi hat]
  rw [if_neg (by simp)]
  have e : rawB (psOf (tkOf xs[i].p)) xs[i].l n z = rawB xs[i].p xs[i].l n z := rfl
  simp only [e]
  cases rawB xs[i].p xs[i].l n z <;> rfl
theorem latest_more {eps : List Ep} {p : Ps} {l : List Sp} (h : (wrF eps p l).2 = 0) (k : W64 × W64) (hk : (addF eps k).2 = 0) (xs : List Px) (n z : Int) : admF (addF eps k).1 xs (wrF eps p l).1 n z = admF eps xs (wrF eps p l).1 n z := by
  obtain ⟨h1, h2, h3, m, hm, e⟩ := wr_ok h
  rcases add_cases eps k with ⟨hc, he⟩ | ⟨_, _, _, he⟩ | ⟨_, h8, h255, he⟩
  · rw [he] at hk; exact absurd hk hc
  · rw [he] at hk; cases hk
  · have hc := chk_add h3 h8 h255 k
    have e1 : (eps ++ [(lastNo eps + 1, k)])[m]'(by simp; omega) = eps[m]'(by omega) := List.getElem_append_left (by omega)
    have r1 := rd_sealed h1 h2 hc m (by simp; omega)
    rw [e1] at r1
    have r2 := rd_sealed h1 h2 h3 m (by omega)
    rw [he]
    unfold admF rawG
    rw [e]
    simp only [r1, r2]
end Gt
end Go.Proofs.YtdfdjampodkpgaaDoor
