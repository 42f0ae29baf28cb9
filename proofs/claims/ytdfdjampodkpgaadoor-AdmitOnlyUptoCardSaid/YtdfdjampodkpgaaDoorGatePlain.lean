/- Gate: plain laws of tokens. -/
import Derived.Test.YtdfdjampodkpgaaDoorGateAdmitR
import Derived.Test.YtdfdjampodkpgaaDoorJRingR
set_option linter.unusedSimpArgs false
set_option linter.unusedVariables false
namespace Go.Proofs.YtdfdjampodkpgaaDoor
open Go.RowKit
namespace Gt
open Sn Pa Rg Tg
theorem numB_app (l : List UInt8) (c : UInt8) : numB (l ++ [c]) = numB l * 256 + c.toNat := by unfold numB; rw [List.foldl_append]; rfl
theorem big_snoc (k n : Nat) : big (k + 1) n = big k (n / 256) ++ [byt n 0] := by
  induction k generalizing n with
  | zero => simp [big]
  | succ k ih =>
    rw [big_succ, ih, big_succ]
    have : byt n (k + 1) = byt (n / 256) k := by
      unfold byt
      rw [Nat.div_div_eq_div_mul, show 8 * (k + 1) = 8 + 8 * k by omega, Nat.pow_add]
    rw [this]; rfl
theorem numB_big (k : Nat) : ∀ n : Nat, n < 256 ^ k → numB (big k n) = n := by
  induction k with
  | zero => intro n h; have : n = 0 := by simpa using h
            subst this; rfl
  | succ k ih =>
    intro n h
    rw [big_snoc, numB_app, ih (n / 256) (by rw [Nat.pow_succ] at h; omega)]
    have : (byt n 0).toNat = n % 256 := by unfold byt; simp
    rw [this]; omega
theorem big_numB' : ∀ (k : Nat) (l : List UInt8), l.length = k → big k (numB l) = l
  | 0, l, h => by
    have : l = [] := List.eq_nil_of_length_eq_zero h
    subst this; rfl
  | k + 1, l, h => by
    have hne : l ≠ [] := fun e => by subst e; simp at h
    obtain ⟨m, c, rfl⟩ : ∃ m c, l = m ++ [c] := ⟨l.dropLast, l.getLast hne, (List.dropLast_concat_getLast hne).symm⟩
    have hm : m.length = k := by simp at h; omega
    have hc := c.toNat_lt
    rw [big_snoc, numB_app]
    have h1 : (numB m * 256 + c.toNat) / 256 = numB m := by omega
    have h2 : byt (numB m * 256 + c.toNat) 0 = c := by
      unfold byt
      rw [Nat.mul_zero, Nat.pow_zero, Nat.div_one, show (numB m * 256 + c.toNat) % 256 = c.toNat by omega]
      simp
    rw [h1, h2, big_numB' k m hm]
theorem big_numB (l : List UInt8) (k : Nat) (h : l.length = k) : big k (numB l) = l := big_numB' k l h
/-! ### a body is read back -/
theorem spsOf_flat : ∀ (j : Nat) (l : List Sp), j ≤ l.length → (∀ s ∈ l, 0 ≤ s.1 ∧ s.1 < 16777216 ∧ 0 ≤ s.2 ∧ s.2 < 16777216) → spsOf j (l.flatMap spB) = l.take j
  | 0, l, _, _ => by simp [spsOf]
  | j + 1, l, hj, hs => by
    have hlt : j < l.length := by omega
    have ih := spsOf_flat j l (by omega) hs
    rw [List.take_succ_eq_append_getElem hlt]
    show spsOf j _ ++ _ = _
    rw [ih]
    congr 1
    have hsplit : l.flatMap spB = (l.take j).flatMap spB ++ (spB l[j] ++ (l.drop (j + 1)).flatMap spB) := by
      conv => lhs; rw [← List.take_append_drop j l]
      rw [List.flatMap_append, List.drop_eq_getElem_cons hlt, List.flatMap_cons]
    have hlen : ((l.take j).flatMap spB).length = 6 * j := by rw [flatB_len, List.length_take]; omega
    obtain ⟨h1, h2, h3, h4⟩ := hs _ (List.getElem_mem hlt)
    have hd : (l.flatMap spB).drop (6 * j) = big 3 l[j].1.toNat ++ (big 3 l[j].2.toNat ++ (l.drop (j + 1)).flatMap spB) := by
      rw [hsplit, List.drop_left' hlen]
      unfold spB
      rw [List.append_assoc]
    have hd3 : (l.flatMap spB).drop (6 * j + 3) = big 3 l[j].2.toNat ++ (l.drop (j + 1)).flatMap spB := by
      rw [← List.drop_drop, hd, List.drop_left' (big_len 3 _)]
    rw [hd, hd3, List.take_left' (big_len 3 _), List.take_left' (big_len 3 _), numB_big 3 _ (by omega), numB_big 3 _ (by omega)]
    have e1 : (l[j].1.toNat : Int) = l[j].1 := Int.toNat_of_nonneg h1
    have e2 : (l[j].2.toNat : Int) = l[j].2 := Int.toNat_of_nonneg h3
    rw [e1, e2]
theorem passE_one {p : Ps} {l : List Sp} (h : passE p l = 0) : passE ⟨p.id, 1, p.a, p.b, p.ser⟩ l = 0 := by
  obtain ⟨⟨h1, h2, _, h4⟩, h5⟩ := passE_ok.1 h
  exact passE_ok.2 ⟨⟨h1, h2, (show Dt.isD 1 = true by decide), h4⟩, h5⟩
theorem tok_body {p : Ps} {l : List Sp} (h : passE p l = 0) (hl : l.length ≤ 17) : tokF (bodyL (tkOf p) l) = ((tkOf p, l), true) := by
  have hp := passE_one h
  obtain ⟨⟨g1, g2, _, g3, g4, _, g5, g6⟩, hcs, hin⟩ := passE_ok.1 h
  have g3' : 0 ≤ p.a ∧ p.a < 6 := by have := g3; unfold zn at this; simpa using this
  have g4' : 0 ≤ p.b ∧ p.b < 6 := by have := g4; unfold zn at this; simpa using this
  have hs : ∀ s ∈ l, 0 ≤ s.1 ∧ s.1 < 16777216 ∧ 0 ≤ s.2 ∧ s.2 < 16777216 := fun s hs => by
    obtain ⟨h1, h2⟩ := hin s hs
    have h3 := canon_each ((chkS_ok l).1 hcs).2.2 s hs
    omega
  have hb : bodyL (tkOf p) l = big 3 p.id.toNat ++ (big 2 p.ser.toNat ++ (big 1 p.a.toNat ++ (big 1 p.b.toNat ++ (big 1 l.length ++ l.flatMap spB)))) := by
    unfold bodyL headB; simp only [List.append_assoc]
  have e3 : (bodyL (tkOf p) l).drop 3 = big 2 p.ser.toNat ++ (big 1 p.a.toNat ++ (big 1 p.b.toNat ++ (big 1 l.length ++ l.flatMap spB))) := by rw [hb, List.drop_left' (big_len 3 _)]
  have e5 : (bodyL (tkOf p) l).drop 5 = big 1 p.a.toNat ++ (big 1 p.b.toNat ++ (big 1 l.length ++ l.flatMap spB)) := by rw [show 5 = 3 + 2 from rfl, ← List.drop_drop, e3, List.drop_left' (big_len 2 _)]
  have e6 : (bodyL (tkOf p) l).drop 6 = big 1 p.b.toNat ++ (big 1 l.length ++ l.flatMap spB) := by rw [show 6 = 5 + 1 from rfl, ← List.drop_drop, e5, List.drop_left' (big_len 1 _)]
  have e7 : (bodyL (tkOf p) l).drop 7 = big 1 l.length ++ l.flatMap spB := by rw [show 7 = 6 + 1 from rfl, ← List.drop_drop, e6, List.drop_left' (big_len 1 _)]
  have e8 : (bodyL (tkOf p) l).drop 8 = l.flatMap spB := by rw [show 8 = 7 + 1 from rfl, ← List.drop_drop, e7, List.drop_left' (big_len 1 _)]
  have hhd : hdN (bodyL (tkOf p) l) = l.length := by unfold hdN; rw [e7, List.take_left' (big_len 1 _), numB_big 1 _ (by omega)]
  have ht : tokT (bodyL (tkOf p) l) = tkOf p := by
    unfold tokT
    rw [e3, e5, e6, hb, List.take_left' (big_len 3 _), List.take_left' (big_len 2 _), List.take_left' (big_len 1 _), List.take_left' (big_len 1 _)]
    rw [numB_big 3 _ (by omega), numB_big 2 _ (by omega), numB_big 1 _ (by omega), numB_big 1 _ (by omega)]
    show (⟨(p.id.toNat : Int), (p.a.toNat : Int), (p.b.toNat : Int), (p.ser.toNat : Int)⟩ : Tk) = ⟨p.id, p.a, p.b, p.ser⟩
    rw [Int.toNat_of_nonneg (by omega), Int.toNat_of_nonneg (by omega), Int.toNat_of_nonneg (by omega), Int.toNat_of_nonneg (by omega)]
  have hsp : tokS (bodyL (tkOf p) l) = l := by
    unfold tokS
    rw [hhd, e8, spsOf_flat l.length l (Nat.le_refl _) hs, List.take_of_length_le (Nat.le_refl _)]
  have hok : tokOk (bodyL (tkOf p) l) := by
    refine ⟨?_, ?_⟩
    · rw [hhd]; unfold bodyL; rw [List.length_append, headB_len, flatB_len]
    · rw [ht, hsp]; exact hp
  rw [tokF_yes hok, ht, hsp]
/-! ### what is written -/
theorem wr_ok {eps : List Ep} {p : Ps} {l : List Sp} (h : (wrF eps p l).2 = 0) : passE p l = 0 ∧ l.length ≤ 17 ∧ chk eps = 0 ∧ ∃ n, ∃ hn : eps.length = n + 1, (wrF eps p l).1 = rawS (sealed (eps[n]'(by omega)) (bodyS p l)) := by
  unfold wrF at h ⊢
  by_cases c1 : passE p l ≠ 0
  · rw [if_pos c1] at h; exact absurd h c1
  rw [if_neg c1] at h ⊢
  by_cases c2 : 17 < l.length
  · rw [if_pos c2] at h; cases h
  rw [if_neg c2] at h ⊢
  by_cases c3 : (sealF eps (bodyS p l)).2 ≠ 0
  · rw [if_pos c3] at h; exact absurd h c3
  rw [if_neg c3]
  refine ⟨by simpa using c1, by omega, ?_⟩
  rcases seal_cases eps (bodyS p l) with ⟨hc, e⟩ | ⟨_, _, e⟩ | ⟨n, hn, hc, hs, e⟩ | ⟨n, hn, hc, hs, e⟩
  · rw [e] at c3; exact absurd hc c3
  · rw [e] at c3; exact absurd (by decide) c3
  · rw [e] at c3; exact absurd (by decide) c3
  · exact ⟨hc, n, hn, by rw [e]⟩
theorem wr_bad {eps : List Ep} {p : Ps} {l : List Sp} (h : (wrF eps p l).2 ≠ 0) : (wrF eps p l).1 = emptyS := by
  unfold wrF at h ⊢
  by_cases c1 : passE p l ≠ 0
  · rw [if_pos c1]
  rw [if_neg c1] at h ⊢
  by_cases c2 : 17 < l.length
  · rw [if_pos c2]
  rw [if_neg c2] at h ⊢
  by_cases c3 : (sealF eps (bodyS p l)).2 ≠ 0
  · rw [if_pos c3]
  rw [if_neg c3] at h; exact absurd rfl h
theorem read_raw (T : ByteArray) (hT : T.size ≤ 120) : Sl.readF (Sl.nt (rawS T)) = (Sl.nt T, 0) := by
  unfold rawS
  rw [Sl.nt_sB (Sl.rawF_lt _)]
  exact Sl.back (Sl.nt_lt T) (by rw [Sl.nt_len]; exact hT)
/-- a token of any ring that has its epoch, at any place, is read -/
theorem rd_sealed {eps : List Ep} {p : Ps} {l : List Sp} (h : passE p l = 0) (hl : l.length ≤ 17) (hc : chk eps = 0) (k : Nat) (hk : k < eps.length) : rdF eps (rawS (sealed eps[k] (bodyS p l))) = ((tkOf p, l), 0) := by
  have hb := bodyS_size p l
  have hs : (sealed eps[k] (bodyS p l)).size ≤ 120 := by rw [sealed_size, hb]; omega
  unfold rdF
  rw [read_raw _ hs, Sl.sB_nt, open_sealed hc k hk _ (by rw [hb]; omega)]
  have hd : (bodyS p l).data.toList = bodyL (tkOf p) l := by unfold bodyS; simp
  simp only
  rw [if_neg (by simp), if_neg (by simp), hd, tok_body h hl]
  rfl
theorem rd_lost {eps : List Ep} {p : Ps} {l : List Sp} (hl : l.length ≤ 17) (hc : chk eps = 0) (x : Ep) (hx : 1 ≤ x.1 ∧ x.1 ≤ 255) (hn : atN x.1 eps = eps.length) : rdF eps (rawS (sealed x (bodyS p l))) = ((tk0, []), 5) := by
  have hb := bodyS_size p l
  have hs : (sealed x (bodyS p l)).size ≤ 120 := by rw [sealed_size, hb]; omega
  unfold rdF
  rw [read_raw _ hs, Sl.sB_nt, open_lost hc x hx _ (by rw [hb]; omega) hn]
  rfl
theorem rd_wr {eps : List Ep} {p : Ps} {l : List Sp} (h : (wrF eps p l).2 = 0) : rdF eps (wrF eps p l).1 = ((tkOf p, l), 0) := by
  obtain ⟨h1, h2, h3, n, hn, e⟩ := wr_ok h
  rw [e]
  exact rd_sealed h1 h2 h3 n (by omega)
theorem wr_size (eps : List Ep) (p : Ps) (l : List Sp) : (wrF eps p l).1.size ≤ 1000 := by
  by_cases h : (wrF eps p l).2 = 0
  · obtain ⟨h1, h2, h3, n, hn, e⟩ := wr_ok h
    have hb := bodyS_size p l
    have hs : (sealed (eps[n]'(by omega)) (bodyS p l)).size ≤ 120 := by rw [sealed_size, hb]; omega
    rw [e]
    unfold rawS
    rw [Sl.sB_size, Sl.rawF_len, Sl.nt_len]
    unfold Sl.fit
    omega
  · rw [wr_bad h]; decide
end Gt
end Go.Proofs.YtdfdjampodkpgaaDoor
