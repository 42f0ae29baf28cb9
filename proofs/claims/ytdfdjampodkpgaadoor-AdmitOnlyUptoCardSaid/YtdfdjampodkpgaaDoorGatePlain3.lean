/- Gate: plain laws: who is admitted has a token that one of the keys sealed. -/
import Derived.Test.YtdfdjampodkpgaaDoorGatePlain2
import Derived.Test.YtdfdjampodkpgaaDoorGateBegun
set_option linter.unusedSimpArgs false
set_option linter.unusedVariables false
namespace Go.Proofs.YtdfdjampodkpgaaDoor
open Go.RowKit
namespace Gt
open Sn Pa Rg Tg
theorem flat_sps : ∀ (j : Nat) (R : List UInt8), 6 * j ≤ R.length → (spsOf j R).flatMap spB = R.take (6 * j)
  | 0, R, _ => by simp [spsOf]
  | j + 1, R, h => by
    show (spsOf j R ++ [_]).flatMap spB = _
    rw [List.flatMap_append, flat_sps j R (by omega)]
    rw [show 6 * (j + 1) = 6 * j + 6 by omega, List.take_add]
    congr 1
    simp only [List.flatMap_cons, List.flatMap_nil, List.append_nil]
    unfold spB
    simp only [Int.toNat_natCast]
    have e1 : ((R.drop (6 * j)).take 3).length = 3 := by rw [List.length_take, List.length_drop]; omega
    have e2 : ((R.drop (6 * j + 3)).take 3).length = 3 := by rw [List.length_take, List.length_drop]; omega
    rw [big_numB _ 3 e1, big_numB _ 3 e2, show (6 : Nat) = 3 + 3 from rfl, List.take_add, List.drop_drop]
theorem body_tok {L : List UInt8} (h : tokOk L) : bodyL (tokT L) (tokS L) = L ∧ (tokS L).length = hdN L := by
  obtain ⟨hl, _⟩ := h
  have hs : (tokS L).length = hdN L := spsOf_len _ _
  refine ⟨?_, hs⟩
  unfold bodyL headB
  rw [hs]
  have hf : (tokS L).flatMap spB = L.drop 8 := by
    unfold tokS
    rw [flat_sps _ _ (by rw [List.length_drop]; omega), List.take_of_length_le (by rw [List.length_drop]; omega)]
  rw [hf]
  unfold tokT hdN
  simp only [Int.toNat_natCast]
  have a1 : (L.take 3).length = 3 := by rw [List.length_take]; omega
  have a2 : ((L.drop 3).take 2).length = 2 := by rw [List.length_take, List.length_drop]; omega
  have a3 : ((L.drop 5).take 1).length = 1 := by rw [List.length_take, List.length_drop]; omega
  have a4 : ((L.drop 6).take 1).length = 1 := by rw [List.length_take, List.length_drop]; omega
  have a5 : ((L.drop 7).take 1).length = 1 := by rw [List.length_take, List.length_drop]; omega
  rw [big_numB _ 3 a1, big_numB _ 2 a2, big_numB _ 1 a3, big_numB _ 1 a4, big_numB _ 1 a5]
  have s1 : L.drop 7 = (L.drop 7).take 1 ++ L.drop 8 := by conv => lhs; rw [← List.take_append_drop 1 (L.drop 7), List.drop_drop]
  have s2 : L.drop 6 = (L.drop 6).take 1 ++ L.drop 7 := by conv => lhs; rw [← List.take_append_drop 1 (L.drop 6), List.drop_drop]
  have s3 : L.drop 5 = (L.drop 5).take 1 ++ L.drop 6 := by conv => lhs; rw [← List.take_append_drop 1 (L.drop 5), List.drop_drop]
  have s4 : L.drop 3 = (L.drop 3).take 2 ++ L.drop 5 := by conv => lhs; rw [← List.take_append_drop 2 (L.drop 3), List.drop_drop]
  have s5 : L = L.take 3 ++ L.drop 3 := (List.take_append_drop 3 L).symm
  simp only [List.append_assoc]
  rw [← s1, ← s2, ← s3, ← s4, ← s5]
/-- what a text's letters say -/
abbrev unS (t : ByteArray) : ByteArray := Sl.sB (Sl.readF (Sl.nt t)).1
abbrev unE (t : ByteArray) : Int := (Sl.readF (Sl.nt t)).2
def goodW (eps : List Ep) (tk : Tk) (kl : List Sp) (S : ByteArray) (j : Nat) : Bool :=
  match eps[j]? with
  | none => false
  | some x => decide ((wrF [x] (psOf tk) kl).2 = 0 ∧ unE (wrF [x] (psOf tk) kl).1 = 0 ∧ unS (wrF [x] (psOf tk) kl).1 = S)
def anyTo (g : Nat → Bool) : Nat → Bool
  | 0 => false
  | j + 1 => anyTo g j || g j
theorem anyTo_yes {g : Nat → Bool} {i : Nat} (h : g i = true) : ∀ n, i < n → anyTo g n = true
  | 0, hn => by omega
  | n + 1, hn => by
    unfold anyTo
    by_cases e : i = n
    · subst e; rw [h]; simp
    · rw [anyTo_yes h n (by omega)]; rfl
theorem only_sealed {eps : List Ep} {t : ByteArray} {tk : Tk} {kl : List Sp} (h : rdF eps t = ((tk, kl), 0)) : unE t = 0 ∧ ∃ i, i < eps.length ∧ goodW eps tk kl (unS t) i = true := by
  unfold rdF at h
  by_cases c1 : (Sl.readF (Sl.nt t)).2 ≠ 0
  · rw [if_pos c1] at h; injection h with _ h; exact absurd h c1
  rw [if_neg c1] at h
  have hE : (Sl.readF (Sl.nt t)).2 = 0 := by simpa using c1
  refine ⟨hE, ?_⟩
  have hlt := Sl.readF_lt (Sl.nt t)
  have hln := Sl.readF_len (Sl.nt t)
  unfold unS
  generalize (Sl.readF (Sl.nt t)).1 = A at *
  have hnA : Sl.nt (Sl.sB A) = A := Sl.nt_sB hlt
  have hsz : (Sl.sB A).size ≤ 120 := by rw [Sl.sB_size]; exact hln
  generalize Sl.sB A = S at *
  by_cases c2 : (openF eps S).2.2 ≠ 0
  · rw [if_pos c2] at h; injection h with _ h; exact absurd h c2
  rw [if_neg c2] at h
  obtain ⟨⟨s', no, e⟩, ho⟩ : ∃ r, openF eps S = r := ⟨_, rfl⟩
  rw [ho] at h c2
  have he : e = 0 := by simpa using c2
  subst he
  simp only at h
  obtain ⟨k, hkey, hseal, _⟩ := open_ok ho
  by_cases c3 : (tokF s'.data.toList).2 = true
  · rw [if_pos c3] at h
    have hok : tokOk s'.data.toList := by
      refine Classical.byContradiction fun hc => ?_
      rw [tokF_no hc] at c3; cases c3
    rw [tokF_yes hok] at h
    injection h with h _
    injection h with h1 h2
    obtain ⟨hb, hl⟩ := body_tok hok
    have hpe := hok.2
    have hpo : passE (psOf tk) kl = 0 := by rw [← h1, ← h2]; exact hpe
    have hlen := hok.1
    have hbs : bodyS (psOf tk) kl = s' := by
      unfold bodyS
      have e1 : tkOf (psOf tk) = tk := rfl
      rw [e1, ← h1, ← h2, hb]
    have hs111 : s'.size ≤ 111 := by
      rcases seal_cases [(no, k)] s' with ⟨hcc, e⟩ | ⟨_, e1, _⟩ | ⟨_, _, _, _, e⟩ | ⟨_, _, _, hs, _⟩
      · rw [hseal] at e; injection e with _ e; exact absurd e.symm hcc
      · simp at e1
      · rw [hseal] at e; injection e with _ e; cases e
      · exact hs
    have hsl : s'.data.toList.length = s'.size := rfl
    have hkl : kl.length ≤ 17 := by rw [← h2, hl]; omega
    have hat : atN no eps < eps.length ∧ eps[atN no eps]? = some (no, k) := by
      unfold keyF at hkey
      cases hx : eps[atN no eps]? with
      | none => rw [hx] at hkey; cases hkey
      | some x =>
        rw [hx] at hkey
        injection hkey with hkey _
        have hlt2 := (List.getElem?_eq_some_iff.1 hx).1
        have hsp := (atN_spec no eps).2 hlt2
        have hx2 := (List.getElem?_eq_some_iff.1 hx).2
        refine ⟨hlt2, ?_⟩
        rw [← hx2]
        congr 1
        refine Prod.ext hsp ?_
        rw [hx2]; exact hkey
    refine ⟨atN no eps, hat.1, ?_⟩
    unfold goodW
    rw [hat.2]
    have hw : wrF [(no, k)] (psOf tk) kl = (rawS S, 0) := by
      unfold wrF
      rw [if_neg (by simpa using hpo), if_neg (by omega), hbs, hseal]
      rfl
    have hr := read_raw S hsz
    refine decide_eq_true ⟨?_, ?_, ?_⟩
    · rw [hw]
    · rw [hw]; unfold unE; rw [hr]
    · rw [hw]; unfold unS; rw [hr]; exact Sl.sB_nt S
  · rw [if_neg c3] at h; injection h with _ h; cases h
end Gt
end Go.Proofs.YtdfdjampodkpgaaDoor
