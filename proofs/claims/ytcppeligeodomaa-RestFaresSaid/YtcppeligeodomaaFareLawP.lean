/- Fares: the plain laws: what is mended, and what more costs. -/
import Derived.Test.YtcppeligeodomaaFareMendP
import Derived.Test.YtcppeligeodomaaPencePlain
set_option linter.unusedVariables false
namespace Go.Proofs.Ytcppeligeodomaa
namespace Fa
abbrev mended (m : List (List Int)) : List (List Int) := mendL m (rngN m.length)
theorem shape_ok {m : List (List Int)} (hm : Ok m) : Shape m.length m := ⟨rfl, fun i hi => by
  have := hm.row i hi
  rw [List.getD_eq_getElem?_getD, List.getElem?_eq_getElem hi]; exact this⟩
theorem low_ok {m : List (List Int)} (hm : Ok m) : Low m.length m := fun x y hxy hy => price_ok hm hxy hy
theorem shape_ext {n : Nat} {A B : List (List Int)} (hA : Shape n A) (hB : Shape n B) (h : ∀ a b, a ≤ b → b < n → price A a b = price B a b) : A = B := by
  apply List.ext_getElem
  · rw [hA.len, hB.len]
  · intro i h1 h2
    have hi : i < n := by rw [← hA.len]; exact h1
    have e1 := hA.row i hi
    have e2 := hB.row i hi
    rw [List.getD_eq_getElem?_getD, List.getElem?_eq_getElem h1] at e1
    rw [List.getD_eq_getElem?_getD, List.getElem?_eq_getElem h2] at e2
    simp only [Option.getD_some] at e1 e2
    apply List.ext_getElem
    · rw [e1, e2]
    · intro k g1 g2
      have := h i (i + k) (by omega) (by omega)
      unfold price at this
      rw [show i + k - i = k by omega] at this
      simpa [List.getD_eq_getElem?_getD, h1, h2, g1, g2] using this
theorem ok_of' {n : Nat} {O : List (List Int)} (hS : Shape n O) (hL : Low n O) (h1 : 1 ≤ n) (h6 : n ≤ 6) : Ok O := by
  refine ⟨by rw [hS.len]; exact h1, by rw [hS.len]; exact h6, fun a ha => ?_, fun r hr p hp => ?_⟩
  · have := hS.row a (by rw [← hS.len]; exact ha)
    rw [hS.len]
    rw [List.getD_eq_getElem?_getD, List.getElem?_eq_getElem ha] at this
    exact this
  · obtain ⟨a, ha, rfl⟩ := List.getElem_of_mem hr
    obtain ⟨k, hk, rfl⟩ := List.getElem_of_mem hp
    have ha' : a < n := by rw [← hS.len]; exact ha
    have hrow := hS.row a ha'
    rw [List.getD_eq_getElem?_getD, List.getElem?_eq_getElem ha] at hrow
    have hk' : k < n - a := by rw [← hrow]; exact hk
    have := hL a (a + k) (by omega) (by omega)
    have e : price O a (a + k) = O[a][k] := by
      unfold price
      rw [show a + k - a = k by omega]
      simp [List.getD_eq_getElem?_getD, ha, hk]
    rw [e] at this
    exact this
section
variable {m : List (List Int)} (hm : Ok m)
include hm
theorem mended_sl : Shape m.length (mended m) ∧ Low m.length (mended m) := mendL_shape hm _ (fun q hq => (mem_rngN _ _).1 hq)
theorem mended_ok : Ok (mended m) := ok_of' (mended_sl hm).1 (mended_sl hm).2 hm.pos hm.six
theorem mended_len : (mended m).length = m.length := (mended_sl hm).1.len
/-- who ends sooner needs no more -/
theorem ach_sooner {e a : Nat} {s : Int} (h : Ach m e a s) : ∀ e', e' ≤ e → ∃ s', s' ≤ s ∧ Ach m e' a s' := by
  induction h with
  | done a h1 => exact fun e' he => ⟨0, Int.le_refl _, .done a (by omega)⟩
  | step a x y s h1 h2 h3 h4 h5 ih =>
    intro e' he
    have hp := (price_ok hm (show x ≤ y by omega) h4).1
    have hs := ach_nonneg hm h5
    by_cases hc : a < e'
    · obtain ⟨s', h6, h7⟩ := ih e' he
      exact ⟨price m x y + s', by omega, .step a x y s' hc h2 h3 h4 h7⟩
    · exact ⟨0, by omega, .done a (by omega)⟩
theorem mended_fair : Fair (mended m) := by
  have hl := mended_len hm
  refine ⟨fun a b x y hx hab hy hyn => ?_, fun a c b h1 h2 hb => ?_⟩
  · rw [hl] at hyn
    obtain ⟨s, h1, h2⟩ := (mendL_least hm x y (by omega) hyn).1
    obtain ⟨s1, h3, h4⟩ := ach_later hm h2 a hx
    obtain ⟨s2, h5, h6⟩ := ach_sooner hm h4 (b + 1) (by omega)
    have := (mendL_least hm a b hab (by omega)).2 s2 h6
    show price (mendL m (rngN m.length)) a b ≤ price (mendL m (rngN m.length)) x y
    omega
  · rw [hl] at hb
    obtain ⟨s, g1, g2⟩ := (mendL_least hm a c h1 (by omega)).1
    obtain ⟨t, g3, g4⟩ := (mendL_least hm (c + 1) b (by omega) hb).1
    obtain ⟨u, g5, g6⟩ := ach_join hm g2 (b + 1) t (by omega) g4
    have := (mendL_least hm a b (by omega) hb).2 u g6
    show price (mendL m (rngN m.length)) a b ≤ price (mendL m (rngN m.length)) a c + price (mendL m (rngN m.length)) (c + 1) b
    omega
theorem mended_le (a b : Nat) (hab : a ≤ b) (hb : b < m.length) : price (mended m) a b ≤ price m a b := by
  have := (mendL_least hm a b hab hb).2 _ (Ach.step a a b 0 (by omega) (Nat.le_refl _) hab hb (.done _ (by omega)))
  show price (mendL m (rngN m.length)) a b ≤ _
  omega
theorem fair_least (hf : Fair m) (a b : Nat) (hab : a ≤ b) (hb : b < m.length) : (∃ s, s ≤ price m a b ∧ Ach m (b + 1) a s) ∧ ∀ s, Ach m (b + 1) a s → price m a b ≤ s :=
  mend_least hm (price m) (fun a b x y h1 h2 h3 h4 => hf.wide a b x y h1 h2 h3 h4) (fun a c b h1 h2 h3 => hf.part a c b h1 h2 h3) (fun a b h1 h2 => .inl ⟨a, b, Nat.le_refl _, Nat.le_refl _, h2, rfl⟩) a b hab hb
theorem mended_same (hf : Fair m) : mended m = m :=
  shape_ext (mended_sl hm).1 (shape_ok hm) (fun a b hab hb => mend_unique _ _ (mendL_least hm) (fair_least hm hf) a b hab hb)
theorem fair_iff : Fair m ↔ mended m = m := ⟨mended_same hm, fun h => by rw [← h]; exact mended_fair hm⟩
theorem mended_twice : mended (mended m) = mended m := mended_same (mended_ok hm) (mended_fair hm)
end
/-- nowhere dearer, range by range -/
def Lower (g f : List (List Int)) : Prop := g.length = f.length ∧ ∀ a b, a ≤ b → b < f.length → price g a b ≤ price f a b
theorem ach_lower {g f : List (List Int)} (hL : Lower g f) {e a : Nat} {s : Int} (h : Ach f e a s) : ∃ s', s' ≤ s ∧ Ach g e a s' := by
  induction h with
  | done a h1 => exact ⟨0, Int.le_refl _, .done a h1⟩
  | step a x y s h1 h2 h3 h4 h5 ih =>
    obtain ⟨s', h6, h7⟩ := ih
    have := hL.2 x y (by omega) h4
    exact ⟨price g x y + s', by omega, .step a x y s' h1 h2 h3 (by rw [hL.1]; exact h4) h7⟩
theorem lower_mended {g f : List (List Int)} (hg : Ok g) (hf : Ok f) (hL : Lower g f) : Lower (mended g) (mended f) := by
  refine ⟨by rw [mended_len hg, mended_len hf]; exact hL.1, fun a b hab hb => ?_⟩
  rw [mended_len hf] at hb
  obtain ⟨s, h1, h2⟩ := (mendL_least hf a b hab hb).1
  obtain ⟨s', h3, h4⟩ := ach_lower hL h2
  have := (mendL_least hg a b hab (by rw [hL.1]; exact hb)).2 s' h4
  show price (mendL g (rngN g.length)) a b ≤ price (mendL f (rngN f.length)) a b
  omega
theorem mended_lower {f : List (List Int)} (hf : Ok f) : Lower (mended f) f := ⟨mended_len hf, fun a b hab hb => mended_le hf a b hab hb⟩
theorem fair_lower {g f : List (List Int)} (hg : Ok g) (hf : Ok f) (hL : Lower g f) (h : Fair g) : Lower g (mended f) := by
  have := lower_mended hg hf hL
  rw [mended_same hg h] at this
  exact this
/-- parts of more, and more parts -/
theorem mag_num (a num den way : Int) : Pn.mag a num den way = Pn.mag (a * num) 1 den way := by unfold Pn.mag; rw [Int.mul_one]
theorem mag_both (a b num num' den way : Int) (ha : 0 ≤ a) (hab : a ≤ b) (hn : 0 ≤ num) (hnn : num ≤ num') (h : 1 ≤ den) : Pn.mag a num den way ≤ Pn.mag b num' den way := by
  refine Int.le_trans (Pn.mag_mono a b num den way hab hn h) ?_
  rw [mag_num b num, mag_num b num']
  exact Pn.mag_mono _ _ 1 den way (Int.mul_le_mul_of_nonneg_left hnn (by omega)) (by omega) h
theorem val_zero (p den way : Int) (hp : 0 ≤ p) (h : 1 ≤ den) : Pn.val p 0 den way = 0 := by
  unfold Pn.val
  rw [if_neg (by omega)]
  unfold Pn.mag
  rw [Int.mul_zero]
  have e1 : (0 : Int) / den = 0 := Int.zero_ediv _
  have e2 : (0 : Int) % den = 0 := Int.zero_emod _
  rw [e1, e2, Pn.upB_zero _ _ _ h]
  simp
end Fa
end Go.Proofs.Ytcppeligeodomaa
