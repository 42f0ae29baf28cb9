/- Sets of days: the document's ends. -/
import Derived.Test.YtcgncmlldjblmaaSpansRef
set_option linter.unusedSimpArgs false
set_option linter.unusedVariables false
namespace Go.Proofs.Ytcgncmlldjblmaa
open Go.RowKit
namespace Sn
def eI (n : Int) : List Value := [.int .i64 n]
@[reducible] def elI : El Int where
  k := 1
  enc := eI
  te := 3
  ts := 83
  bytes := 8
  zero := .int .i64 0
  k0 := by decide
  zs := rfl
  len := fun _ => rfl
  one := fun x y h => by simp [eI] at h; subst h; rfl
  info := by kernel_rfl
  und := Try.underlying83
theorem eI_at {w : World} {b off : Nat} {xs : List Int} (h : ∀ (i : Nat) (h : i < xs.length) (j : Nat) (u : Value), (eI xs[i])[j]? = some u → w.cell? ⟨b, off + (i * 1 + j), none⟩ = some u)
    (i : Nat) (hi : i < xs.length) : w.cell? ⟨b, off + i, none⟩ = some (.int .i64 xs[i]) := by
  have := h i hi 0 _ rfl
  simpa using this
/-- what was put, what is to come -/
theorem with_at (n : Int) (l : List Int) (k : Nat) (h : k < l.length) (d : Bool) : withL n d (l.drop k) = (if (!d && decide (n ≤ l[k])) = true then [n] else []) ++ (if l[k] = n then [] else [l[k]]) ++ withL n (d || decide (n ≤ l[k])) (l.drop (k + 1)) := by
  rw [List.drop_eq_getElem_cons h]; rfl
set_option maxRecDepth 100000 in
set_option maxHeartbeats 4000000 in
theorem with_any (v : Value) (l : List Int) (n : Int) (w : World) (h : RdE elI w v l) (hl : l.length ≤ 1000) : Calls Try.prog 73 #[v, .int .i64 n] w fun e w' => ∃ u, e = .returned u ∧ ROwn elI w' w.heap.size u (withL n false l) ∧ Below w.heap.size w w' := by
  obtain ⟨a, cap, rfl, h1, h2, h3⟩ := h
  have H3 := Lib.hid h3; clear h3
  obtain ⟨RES, hRES⟩ : ∃ RES, withL n false l = RES := ⟨_, rfl⟩
  rw [hRES]
  have HF : RowKit.Hid (RES = [] ++ withL n false (l.drop 0)) := Lib.hid hRES.symm
  clear hRES
  go_enter Try.func73, Try.ntmps73
  go_wp2
  go_loopw [5, 6, 7] (fun o d i wr => ∃ (k : Nat) (out : List Int) (dn : Bool), k ≤ l.length ∧ i = .int .i64 k ∧ d = .bool dn ∧ ROwn elI wr w.heap.size o out ∧ out.length ≤ 2 * k ∧ RES = out ++ withL n dn (l.drop k) ∧ Below w.heap.size w wr) (fun _ _ i _ => l.length - (intOf i).toNat)
  case atStart => exact ⟨0, [], false, Nat.zero_le _, rfl, rfl, ROwn.nil _ _, Nat.le_refl _, HF.out, br _⟩
  case round =>
    obtain ⟨k, out, dn, hk, rfl, rfl, hown, hol, hch, hbw⟩ := hrel
    have HBW := Lib.hid hbw; have HOWN := Lib.hid hown
    by_cases hlt : k < l.length
    · obtain ⟨g, off, rfl, hbl, hc⟩ := H3.out (by omega)
      have hq := eI_at hc k hlt
      have d0 := (hbw.cell (p := ⟨g, off + k, none⟩) hbl).trans hq
      have i1 : (k : Int) < (l.length : Int) := by omega
      have i0 : (0 : Int) ≤ (k : Int) := by omega
      rw [with_at n l k hlt] at hch
      clear hc hbw hown H3 HF
      obtain ⟨x, hx⟩ : ∃ x, l[k] = x := ⟨_, rfl⟩
      rw [hx] at d0 hch hq
      have HQ := Lib.hid hq
      clear hx hq
      by_cases c1 : (!dn && decide (n ≤ x)) = true
      · rw [if_pos c1] at hch
        obtain ⟨e1, e2⟩ : dn = false ∧ n ≤ x := by simpa using c1
        subst e1
        rw [Bool.false_or, decide_eq_true e2] at hch
        clear c1
        by_cases c2 : x = n
        · rw [if_pos c2, List.append_nil, ← List.append_assoc] at hch
          have HCH := Lib.hid hch
          have hne : (x != n) = false := by simp [c2]
          clear hch c2
          go_wp2_with (at_builtin; refine appE elI rfl (.tmp 24) (.tmp 26) rfl w.heap.size _ out rfl (HOWN.out.next ((br wr).alloc (Nat.le_refl _) _)) _ [n] rfl (rd_lit elI [n] _ _ _ _ rfl (by simp [maxLen])) (by show out.length + 1 ≤ _; unfold maxLen; omega) (by show (out.length + 1) * 8 ≤ _; omega) (by have := HBW.out.size; simp; omega) ?_; intro v1 w5 ho1 hb1 hf1; have HO1 := Lib.hid ho1; have HB5 := Lib.hid (hb1); clear ho1 hb1 hf1; have HBW5 := Lib.hid ((HBW.out.alloc HBW.out.size _).trans HB5.out); have d0 := (HBW5.out.cell (p := ⟨g, off + k, none⟩) hbl).trans HQ.out)
          go_roundw
          case rel => exact ⟨k + 1, _, true, by omega, by go_num, rfl, HO1.out, by rw [List.length_append]; show out.length + 1 ≤ _; omega, HCH.out, HBW5.out⟩
          case measure => simp [intOf]; omega
        · rw [if_neg c2, List.append_assoc, ← List.append_assoc, ← List.append_assoc] at hch
          have HCH := Lib.hid hch
          have hne : (x != n) = true := by simp [c2]
          clear hch c2
          go_wp2_with (first | (at_builtin; refine appE elI rfl (.tmp 24) (.tmp 26) rfl w.heap.size _ out rfl (HOWN.out.next ((br wr).alloc (Nat.le_refl _) _)) _ [n] rfl (rd_lit elI [n] _ _ _ _ rfl (by simp [maxLen])) (by show out.length + 1 ≤ _; unfold maxLen; omega) (by show (out.length + 1) * 8 ≤ _; omega) (by have := HBW.out.size; simp; omega) ?_; intro v1 w5 ho1 hb1 hf1; have HO1 := Lib.hid ho1; have HB5 := Lib.hid (hb1); clear ho1 hb1 hf1; have HBW5 := Lib.hid ((HBW.out.alloc HBW.out.size _).trans HB5.out); have d0 := (HBW5.out.cell (p := ⟨g, off + k, none⟩) hbl).trans HQ.out) | (at_builtin; refine appE elI rfl (.tmp 34) (.tmp 39) rfl w.heap.size _ (out ++ [n]) rfl (HO1.out.next ((br w5).alloc (Nat.le_refl _) _)) _ [x] rfl (rd_lit elI [x] _ _ _ _ rfl (by simp [maxLen])) (by rw [List.length_append]; show (out.length + 1) + 1 ≤ _; unfold maxLen; omega) (by rw [List.length_append]; show ((out.length + 1) + 1) * 8 ≤ _; omega) (by have := HBW.out.size; have := HBW5.out.size; simp; omega) ?_; intro v2 w6 ho2 hb2 hf2; have HO2 := Lib.hid ho2; have HB6 := Lib.hid (hb2); clear ho2 hb2 hf2; have HBW6 := Lib.hid ((HBW5.out.alloc HBW5.out.size _).trans HB6.out)))
          go_roundw
          case rel => exact ⟨k + 1, _, true, by omega, by go_num, rfl, HO2.out, by rw [List.length_append, List.length_append]; show out.length + 1 + 1 ≤ _; omega, HCH.out, HBW6.out⟩
          case measure => simp [intOf]; omega
      · rw [if_neg c1, List.nil_append] at hch
        have hdn : (dn || decide (n ≤ x)) = dn := by cases dn <;> simp at c1 ⊢; omega
        rw [hdn] at hch
        clear hdn
        by_cases c2 : x = n
        · have hd : dn = true := by cases dn <;> simp at c1 ⊢; omega
          subst hd
          rw [if_pos c2, List.nil_append] at hch
          have HCH := Lib.hid hch
          have hne : (x != n) = false := by simp [c2]
          clear hch c2 c1
          go_wp2
          go_roundw
          case rel => exact ⟨k + 1, _, true, by omega, by go_num, rfl, HOWN.out, by omega, HCH.out, HBW.out⟩
          case measure => simp [intOf]; omega
        · rw [if_neg c2, ← List.append_assoc] at hch
          have HCH := Lib.hid hch
          have hne : (x != n) = true := by simp [c2]
          clear hch c2
          cases dn with
          | true =>
            clear c1
            go_wp2_with (at_builtin; refine appE elI rfl (.tmp 34) (.tmp 39) rfl w.heap.size _ out rfl (HOWN.out.next ((br wr).alloc (Nat.le_refl _) _)) _ [x] rfl (rd_lit elI [x] _ _ _ _ rfl (by simp [maxLen])) (by show out.length + 1 ≤ _; unfold maxLen; omega) (by show (out.length + 1) * 8 ≤ _; omega) (by have := HBW.out.size; simp; omega) ?_; intro v1 w5 ho1 hb1 hf1; have HO1 := Lib.hid ho1; have HB5 := Lib.hid (hb1); clear ho1 hb1 hf1; have HBW5 := Lib.hid ((HBW.out.alloc HBW.out.size _).trans HB5.out))
            go_roundw
            case rel => exact ⟨k + 1, _, true, by omega, by go_num, rfl, HO1.out, by rw [List.length_append]; show out.length + 1 ≤ _; omega, HCH.out, HBW5.out⟩
            case measure => simp [intOf]; omega
          | false =>
            have c3 : ¬ n ≤ x := by simpa using c1
            clear c1
            go_wp2_with (at_builtin; refine appE elI rfl (.tmp 34) (.tmp 39) rfl w.heap.size _ out rfl (HOWN.out.next ((br wr).alloc (Nat.le_refl _) _)) _ [x] rfl (rd_lit elI [x] _ _ _ _ rfl (by simp [maxLen])) (by show out.length + 1 ≤ _; unfold maxLen; omega) (by show (out.length + 1) * 8 ≤ _; omega) (by have := HBW.out.size; simp; omega) ?_; intro v1 w5 ho1 hb1 hf1; have HO1 := Lib.hid ho1; have HB5 := Lib.hid (hb1); clear ho1 hb1 hf1; have HBW5 := Lib.hid ((HBW.out.alloc HBW.out.size _).trans HB5.out))
            go_roundw
            case rel => exact ⟨k + 1, _, false, by omega, by go_num, rfl, HO1.out, by rw [List.length_append]; show out.length + 1 ≤ _; omega, HCH.out, HBW5.out⟩
            case measure => simp [intOf]; omega
    · have ek : k = l.length := by omega
      subst ek
      rw [List.drop_length] at hch
      have HBW := Lib.hid hbw
      clear hbw H3 hown
      cases dn with
      | true =>
        have HCH : RowKit.Hid (RES = out) := Lib.hid (by rw [hch]; show out ++ [] = out; simp)
        clear hch
        go_wp2
        go_ret
        exact ⟨_, rfl, by rw [HCH.out]; exact HOWN.out, HBW.out⟩
      | false =>
        have HCH : RowKit.Hid (RES = out ++ [n]) := Lib.hid (by rw [hch]; rfl)
        clear hch
        go_wp2_with (at_builtin; refine appE elI rfl (.tmp 43) (.tmp 45) rfl w.heap.size _ out rfl (HOWN.out.next ((br wr).alloc (Nat.le_refl _) _)) _ [n] rfl (rd_lit elI [n] _ _ _ _ rfl (by simp [maxLen])) (by show out.length + 1 ≤ _; unfold maxLen; omega) (by show (out.length + 1) * 8 ≤ _; omega) (by have := HBW.out.size; simp; omega) ?_; intro v1 w5 ho1 hb1 hf1; have HO1 := Lib.hid ho1; have HB5 := Lib.hid (hb1); clear ho1 hb1 hf1; have HBW5 := Lib.hid ((HBW.out.alloc HBW.out.size _).trans HB5.out))
        go_ret
        exact ⟨_, rfl, by rw [HCH.out]; exact HO1.out, HBW5.out⟩
end Sn
end Go.Proofs.Ytcgncmlldjblmaa
