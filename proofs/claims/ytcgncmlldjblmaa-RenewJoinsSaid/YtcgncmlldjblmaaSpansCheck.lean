/- Sets of days: are they right? And their edges. -/
import Derived.Test.YtcgncmlldjblmaaSpansEl
import Derived.BigQuiet
set_option linter.unusedSimpArgs false
set_option linter.unusedVariables false
namespace Go.Proofs.Ytcgncmlldjblmaa
open Go.RowKit
namespace Sn
def chkL : Option Int → List Sp → Int
  | _, [] => 0
  | p, s :: l => if ¬ isN s then 3 else if s.2 ≤ s.1 then 1 else if (match p with | some x => decide (s.1 ≤ x) | none => false) = true then 4 else chkL (some s.2) l
def chkS (l : List Sp) : Int := if 64 < l.length then 2 else chkL none l
/-- fits behind an end -/
def Behind (p : Option Int) (l : List Sp) : Prop := ∀ x, p = some x → ∀ s ∈ l.head?, x < s.1
theorem chkL_ok : ∀ (l : List Sp) (p : Option Int), chkL p l = 0 ↔ (∀ s ∈ l, isN s) ∧ Canon l ∧ Behind p l
  | [], p => by simp [chkL, Canon, Behind]
  | s :: l, p => by
    unfold chkL
    by_cases h1 : isN s
    · rw [if_neg (fun h => h h1)]
      by_cases h2 : s.2 ≤ s.1
      · rw [if_pos h2]
        exact ⟨fun h => by omega, fun h => by have := canon_head h.2.1; omega⟩
      rw [if_neg h2]
      by_cases h3 : (match p with | some x => decide (s.1 ≤ x) | none => false) = true
      · rw [if_pos h3]
        refine ⟨fun h => by omega, fun h => ?_⟩
        cases p with
        | none => simp at h3
        | some x =>
          have := h.2.2 x rfl s (by simp)
          simp at h3; omega
      rw [if_neg h3, chkL_ok l (some s.2)]
      have hp : Behind p (s :: l) := fun x hx t ht => by
        subst hx
        simp at ht h3; subst ht; omega
      constructor
      · rintro ⟨g1, g2, g3⟩
        refine ⟨fun t ht => ?_, ?_, hp⟩
        · rcases List.mem_cons.1 ht with rfl | ht
          · exact h1
          · exact g1 t ht
        · cases l with
          | nil => show s.1 < s.2; omega
          | cons t l => exact ⟨by omega, g3 s.2 rfl t (by simp), g2⟩
      · rintro ⟨g1, g2, _⟩
        refine ⟨fun t ht => g1 t (by simp [ht]), canon_tail g2, fun x hx t ht => ?_⟩
        injection hx with hx
        subst hx
        exact canon_from g2 t (List.mem_of_mem_head? ht)
    · rw [if_pos h1]
      exact ⟨fun h => by omega, fun h => absurd (h.1 s (by simp)) h1⟩
theorem chkS_ok (l : List Sp) : chkS l = 0 ↔ l.length ≤ 64 ∧ (∀ s ∈ l, isN s) ∧ Canon l := by
  unfold chkS
  by_cases h : 64 < l.length
  · rw [if_pos h]; exact ⟨fun h => by omega, fun h' => by omega⟩
  · rw [if_neg h, chkL_ok]
    exact ⟨fun g => ⟨by omega, g.1, g.2.1⟩, fun g => ⟨g.2.1, g.2.2, fun x hx => by cases hx⟩⟩
/-- where the last one ends -/
def prev (l : List Sp) (k : Nat) : Option Int := if k = 0 then none else (l[k - 1]?).map (·.2)
theorem chkL_at (l : List Sp) (k : Nat) (h : k < l.length) : chkL (prev l k) (l.drop k) = if ¬ isN l[k] then 3 else if l[k].2 ≤ l[k].1 then 1 else if (match prev l k with | some x => decide (l[k].1 ≤ x) | none => false) = true then 4 else chkL (prev l (k + 1)) (l.drop (k + 1)) := by
  rw [List.drop_eq_getElem_cons h]
  have : prev l (k + 1) = some l[k].2 := by unfold prev; simp [h]
  rw [this]; rfl
set_option maxRecDepth 100000 in
set_option maxHeartbeats 4000000 in
theorem check_any (v : Value) (l : List Sp) (w : World) (h : RdE elS w v l) : Calls Try.prog 39 #[v] w (IntQ (chkS l) w) := by
  have hle := h.len_le
  obtain ⟨a, cap, rfl, h1, h2, h3⟩ := h
  have H3 := Lib.hid h3; clear h3
  by_cases c0 : 64 < l.length
  · have hF : chkS l = 2 := by unfold chkS; rw [if_pos c0]
    have HF := Lib.hid hF
    have hq : (64 : Int) < (l.length : Int) := by omega
    clear hF c0 H3
    go_enter Try.func39, Try.ntmps39
    go_wp2
    go_ret
    exact ⟨by rw [HF.out]; rfl, br _⟩
  have hq : ¬ (64 : Int) < (l.length : Int) := by omega
  have hF : chkS l = chkL (prev l 0) (l.drop 0) := by unfold chkS; rw [if_neg c0]; rfl
  have HF := Lib.hid hF
  clear hF
  go_enter Try.func39, Try.ntmps39
  go_wp2
  go_loopw [10] (fun i wr => ∃ k : Nat, k ≤ l.length ∧ i = .int .i64 k ∧ chkS l = chkL (prev l k) (l.drop k) ∧ Below w.heap.size w wr) (fun i _ => l.length - (intOf i).toNat)
  case atStart => exact ⟨0, Nat.zero_le _, rfl, HF.out, br _⟩
  case round =>
    obtain ⟨k, hk, rfl, hch, hbw⟩ := hrel
    have HBW := Lib.hid hbw
    by_cases hlt : k < l.length
    · obtain ⟨g, off, rfl, hbl, hc⟩ := H3.out (by omega)
      obtain ⟨q0, q1⟩ := eS_at hc k hlt
      have d0 := (hbw.cell (p := ⟨g, off + k * 2, none⟩) hbl).trans q0
      have d1 := (hbw.cell (p := ⟨g, off + k * 2 + 1, none⟩) hbl).trans q1
      have i1 : (k : Int) < (l.length : Int) := by omega
      have i0 : (0 : Int) ≤ (k : Int) := by omega
      rw [chkL_at l k hlt] at hch
      have HNB := Lib.hid (numbers_any l[k])
      have HBA := Lib.hid (hbw.alloc (by have := hbw.size; exact this) (.cells #[.int .i64 l[k].1, .int .i64 l[k].2] 51))
      have hbx := Box.new wr 51 [.int .i64 l[k].1, .int .i64 l[k].2]
      have HBX := Lib.hid hbx
      have hpr : k = 0 ∨ ∃ h' : k - 1 < l.length, 0 < k ∧ prev l k = some l[k - 1].2 := by
        by_cases h0 : k = 0
        · exact .inl h0
        · exact .inr ⟨by omega, by omega, by unfold prev; rw [if_neg h0, List.getElem?_eq_getElem (by omega)]; rfl⟩
      have HPR := Lib.hid hpr
      have HQ := Lib.hid (fun (h' : k - 1 < l.length) => (eS_at hc (k - 1) h').2)
      clear hc q0 q1 hbw hbx hpr H3
      obtain ⟨s, hs⟩ : ∃ s, l[k] = s := ⟨_, rfl⟩
      rw [hs] at d0 d1 hch HNB HBA HBX
      have HS := Lib.hid hs
      clear hs
      obtain ⟨p, q⟩ := s
      simp only at d0 d1 hch HNB HBA HBX
      by_cases c1 : isN (p, q)
      · rw [if_neg (fun h => h c1)] at hch
        have hdc : decide (isN (p, q)) = true := decide_eq_true c1
        rw [hdc] at HNB
        clear hdc c1
        by_cases c2 : q ≤ p
        · rw [if_pos c2] at hch
          have HCH := Lib.hid hch
          clear hch
          go_wp2_with fail
          refine (HNB.out _).mono ?_
          rintro en w2 ⟨rfl, b2⟩
          have d0 := (HBX.out.next b2).cell 0; have d1 := (HBX.out.next b2).cell 1
          simp only [List.getElem?_cons_zero, List.getElem?_cons_succ] at d0 d1
          have HB2 := Lib.hid (bt HBA.out b2)
          clear b2
          go_wp2
          go_ret
          exact ⟨by rw [HCH.out]; rfl, HB2.out⟩
        rw [if_neg c2] at hch
        rcases HPR.out with rfl | ⟨hk1, hk0, hpv⟩
        · have hch2 : chkS l = chkL (prev l 1) (l.drop 1) := by
            rw [hch, if_neg (by unfold prev; simp)]
          have HCH := Lib.hid hch2
          clear hch hch2 HPR
          simp only [Nat.zero_mul, Nat.add_zero, Int.ofNat_zero] at d0 d1 i0 i1
          go_wp2_with fail
          refine (HNB.out _).mono ?_
          rintro en w2 ⟨rfl, b2⟩
          have d0 := (HBX.out.next b2).cell 0; have d1 := (HBX.out.next b2).cell 1
          simp only [List.getElem?_cons_zero, List.getElem?_cons_succ] at d0 d1
          have HB2 := Lib.hid (bt HBA.out b2)
          clear b2
          go_wp2_with fail
          go_quiet (fail)
          go_wp2
          go_roundw
          case rel => exact ⟨1, by omega, by first | rfl | go_num, HCH.out, bn HB2.out _⟩
          case measure => simp [intOf]; omega
        · obtain ⟨j, rfl⟩ : ∃ j, k = j + 1 := ⟨k - 1, by omega⟩
          simp only [Nat.add_sub_cancel] at hk1 hpv
          have q1' := HQ.out hk1
          simp only [Nat.add_sub_cancel] at q1'
          rw [hpv] at hch
          simp only at hch
          have ij0 : (0 : Int) ≤ (j : Int) := by omega
          have ij1 : (j : Int) < (l.length : Int) := by omega
          have ijp : (0 : Int) < (j : Int) + 1 := by omega
          generalize l[j].2 = x at *
          have HQ1 := Lib.hid q1'
          clear HPR hpv HQ q1'
          by_cases c3 : p ≤ x
          · rw [if_pos (decide_eq_true c3)] at hch
            have HCH := Lib.hid hch
            clear hch
            go_wp2_with fail
            refine (HNB.out _).mono ?_
            rintro en w2 ⟨rfl, b2⟩
            have d0 := (HBX.out.next b2).cell 0; have d1 := (HBX.out.next b2).cell 1
            simp only [List.getElem?_cons_zero, List.getElem?_cons_succ] at d0 d1
            have HB2 := Lib.hid (bt HBA.out b2)
            have e0 := (HB2.out.cell (p := ⟨g, off + j * 2 + 1, none⟩) hbl).trans HQ1.out
            clear b2
            go_wp2_with fail
            go_quiet (fail)
            go_wp2
            go_ret
            exact ⟨by rw [HCH.out]; rfl, bn HB2.out _⟩
          · rw [if_neg (by simp; omega)] at hch
            have HCH := Lib.hid hch
            clear hch
            go_wp2_with fail
            refine (HNB.out _).mono ?_
            rintro en w2 ⟨rfl, b2⟩
            have d0 := (HBX.out.next b2).cell 0; have d1 := (HBX.out.next b2).cell 1
            simp only [List.getElem?_cons_zero, List.getElem?_cons_succ] at d0 d1
            have HB2 := Lib.hid (bt HBA.out b2)
            have e0 := (HB2.out.cell (p := ⟨g, off + j * 2 + 1, none⟩) hbl).trans HQ1.out
            clear b2
            go_wp2_with fail
            go_quiet (fail)
            go_wp2
            go_roundw
            case rel => exact ⟨j + 1 + 1, by omega, by go_num, HCH.out, bn HB2.out _⟩
            case measure => simp [intOf]; omega
      · rw [if_pos c1] at hch
        have hdc : decide (isN (p, q)) = false := decide_eq_false c1
        rw [hdc] at HNB
        have HCH := Lib.hid hch
        clear hch hdc c1
        go_wp2_with fail
        refine (HNB.out _).mono ?_
        rintro en w2 ⟨rfl, b2⟩
        have HB2 := Lib.hid (bt HBA.out b2)
        clear b2
        go_wp2
        go_ret
        exact ⟨by rw [HCH.out]; rfl, HB2.out⟩
    · have hch2 : chkS l = 0 := by rw [hch, List.drop_eq_nil_of_le (by omega)]; rfl
      have HCH := Lib.hid hch2
      clear hch hch2 H3
      go_wp2
      go_ret
      exact ⟨by rw [HCH.out]; rfl, hbw⟩
/-- a span's two edges -/
def edgesOf (f s : Int) (l : List Sp) : List Ed := l.flatMap (fun p => [⟨p.1, f, s⟩, ⟨p.2, -f, -s⟩])
set_option maxRecDepth 100000 in
set_option maxHeartbeats 4000000 in
theorem edges_any (v : Value) (l : List Sp) (f s : Int) (w : World) (h : RdE elS w v l) (hl : l.length ≤ 64) (hf : -1 ≤ f ∧ f ≤ 1) (hs : -1 ≤ s ∧ s ≤ 1) : Calls Try.prog 59 #[v, .int .i64 f, .int .i64 s] w fun e w' => ∃ u, e = .returned u ∧ ROwn elE w' w.heap.size u (edgesOf f s l) ∧ Below w.heap.size w w' := by
  obtain ⟨a, cap, rfl, h1, h2, h3⟩ := h
  have H3 := Lib.hid h3; clear h3
  have hf1 := hf.1; have hf2 := hf.2; have hs1 := hs.1; have hs2 := hs.2
  clear hf hs
  go_enter Try.func59, Try.ntmps59
  go_wp2
  go_loopw [7, 12] (fun u i wr => ∃ k : Nat, k ≤ l.length ∧ i = .int .i64 k ∧ ROwn elE wr w.heap.size u (edgesOf f s (l.take k)) ∧ Below w.heap.size w wr) (fun _ i _ => l.length - (intOf i).toNat)
  case atStart => exact ⟨0, Nat.zero_le _, rfl, ROwn.nil _ _, br _⟩
  case round =>
    obtain ⟨k, hk, rfl, hown, hbw⟩ := hrel
    have HOWN := Lib.hid hown; have HBW := Lib.hid hbw
    by_cases hlt : k < l.length
    · obtain ⟨g, off, rfl, hbl, hc⟩ := H3.out (by omega)
      obtain ⟨q0, q1⟩ := eS_at hc k hlt
      have d0 := (hbw.cell (p := ⟨g, off + k * 2, none⟩) hbl).trans q0
      have d1 := (hbw.cell (p := ⟨g, off + k * 2 + 1, none⟩) hbl).trans q1
      have i1 : (k : Int) < (l.length : Int) := by omega
      have i0 : (0 : Int) ≤ (k : Int) := by omega
      have HTK : RowKit.Hid (edgesOf f s (l.take (k + 1)) = edgesOf f s (l.take k) ++ [⟨l[k].1, f, s⟩, ⟨l[k].2, -f, -s⟩]) := Lib.hid (by
        unfold edgesOf; rw [List.take_succ_eq_append_getElem hlt, List.flatMap_append]; rfl)
      have HLN : RowKit.Hid ((edgesOf f s (l.take k)).length = 2 * k) := Lib.hid (by
        have : ∀ m : List Sp, (edgesOf f s m).length = 2 * m.length := fun m => by
          induction m with
          | nil => rfl
          | cons x m ih => unfold edgesOf at *; rw [List.flatMap_cons, List.length_append, ih]; simp; omega
        rw [this, List.length_take]; omega)
      clear hc q0 q1 hown hbw H3
      generalize l[k].1 = p at *; generalize l[k].2 = q at *
      generalize hed : edgesOf f s (l.take k) = ed at *
      clear hed
      go_wp2_with (at_builtin; refine appE elE rfl (.tmp 16) (.tmp 29) rfl w.heap.size _ ed rfl ((HOWN.out.next ((br wr).alloc (Nat.le_refl _) _)).next ((br _).alloc (Nat.le_refl _) _)) _ [⟨p, f, s⟩, ⟨q, -f, -s⟩] rfl (rd_lit elE [⟨p, f, s⟩, ⟨q, -f, -s⟩] _ _ _ _ (by simp) (by simp [maxLen])) (by rw [HLN.out]; show 2 * k + 2 ≤ _; unfold maxLen; omega) (by rw [HLN.out]; show (2 * k + 2) * 24 ≤ _; omega) (by have := HBW.out.size; simp; omega) ?_; intro v1 w5 hown1 hb5 hfar5; have HO1 := Lib.hid hown1; have HB5 := Lib.hid (((HBW.out.alloc HBW.out.size (.cells #[.int .i64 p, .int .i64 q] 51)).alloc (by have := HBW.out.size; simp; omega) _).trans hb5); clear hown1 hfar5 hb5)
      go_roundw
      case rel => exact ⟨k + 1, by omega, by go_num, by rw [HTK.out]; exact HO1.out, HB5.out⟩
      case measure => simp [intOf]; omega
    · have ek : k = l.length := by omega
      subst ek
      rw [List.take_length] at hown
      have HO2 := Lib.hid hown
      clear hown hbw HOWN
      go_wp2
      go_ret
      exact ⟨_, rfl, HO2.out, HBW.out⟩
end Sn
end Go.Proofs.Ytcgncmlldjblmaa
