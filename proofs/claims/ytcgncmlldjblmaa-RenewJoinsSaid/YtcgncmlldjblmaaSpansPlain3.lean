/- Sets of days, plain law: one form; algebra; how many. -/
import Derived.Test.YtcgncmlldjblmaaSpansHas
set_option linter.unusedSimpArgs false
set_option linter.unusedVariables false
namespace Go.Proofs.Ytcgncmlldjblmaa
open Go.RowKit
namespace Sn
theorem set_eq {xs ys : List Sp} (h : Canon xs) (h' : Canon ys) (hm : ∀ n, has xs n = has ys n) : xs = ys :=
  canon_unique h h' (fun n => by rw [← has_iff, ← has_iff, hm])
theorem byL_has (op : Int) (a b : List Sp) (n : Int) : has (byL op a b) n = opB op (has a n) (has b n) := by
  rw [Bool.eq_iff_iff, has_iff]; exact (byL_is op a b).2 n
theorem setTo_mem {l : List Sp} {y : Int} {s : Sp} (h : s ∈ setTo l y) : s ∈ l ∨ (s.2 = y ∧ ∃ t ∈ l, s.1 = t.1) := by
  unfold setTo at h
  split at h
  · rename_i t ht
    rcases List.mem_append.1 h with h | h
    · exact .inl (List.dropLast_subset _ h)
    · simp at h; subst h
      exact .inr ⟨rfl, t, List.mem_of_getLast? ht, rfl⟩
  · exact .inl h
theorem byW_ends (W : Int → Bool) (E : List Int) : ∀ (l : List Int) (out : List Sp), (∀ x ∈ l, x ∈ E) → (∀ s ∈ out, s.1 ∈ E ∧ s.2 ∈ E) → ∀ s ∈ byW W l out, s.1 ∈ E ∧ s.2 ∈ E
  | [], out, _, h => h
  | [x], out, _, h => h
  | x :: y :: l, out, hl, h => by
    refine byW_ends W E (y :: l) (byStep W out x y) (fun z hz => hl z (by simp at hz ⊢; exact .inr hz)) (fun s hs => ?_)
    unfold byStep at hs
    split at hs
    · split at hs
      · rcases setTo_mem hs with hs | ⟨e, t, ht, e2⟩
        · exact h s hs
        · exact ⟨by rw [e2]; exact (h t ht).1, by rw [e]; exact hl y (by simp)⟩
      · rcases List.mem_append.1 hs with hs | hs
        · exact h s hs
        · simp at hs; subst hs; exact ⟨hl x (by simp), hl y (by simp)⟩
    · exact h s hs
theorem byL_isN (op : Int) (a b : List Sp) (ha : ∀ s ∈ a, isN s) (hb : ∀ s ∈ b, isN s) : ∀ s ∈ byL op a b, isN s := by
  intro s hs
  have hin : ∀ e ∈ endsL (a ++ b), -1099511627776 ≤ e ∧ e ≤ 1099511627776 := fun e he => by
    obtain ⟨t, ht, h⟩ := (ends_mem _ _).1 he
    have hn : isN t := (List.mem_append.1 ht).elim (ha t) (hb t)
    unfold isN at hn
    rcases h with rfl | rfl <;> omega
  have := byW_ends (fun n => opB op (has a n) (has b n)) (endsL (a ++ b)) (endsL (a ++ b)) [] (fun x hx => hx) (fun s hs => by simp at hs) s hs
  have h1 := hin _ this.1; have h2 := hin _ this.2
  unfold isN; omega
theorem both_parts {op : Int} {a b : List Sp} (h : bothE op a b = 0) : chkS a = 0 ∧ chkS b = 0 ∧ (byL op a b).length ≤ 64 ∧ bothR op a b = byL op a b := by
  have hr : bothR op a b = byL op a b := by unfold bothR; rw [if_pos h]
  unfold bothE at h
  by_cases ha : chkS a = 0
  · rw [if_pos ha] at h
    by_cases hb : chkS b = 0
    · rw [if_pos hb] at h
      by_cases hc : 64 < (byL op a b).length
      · rw [if_pos hc] at h; omega
      · exact ⟨ha, hb, by omega, hr⟩
    · rw [if_neg hb] at h; exact absurd h hb
  · rw [if_neg ha] at h; exact absurd h ha
theorem bothE_ok {op : Int} {a b : List Sp} (h1 : chkS a = 0) (h2 : chkS b = 0) : bothE op a b = if 64 < (byL op a b).length then 2 else 0 := by
  unfold bothE; rw [if_pos h1, if_pos h2]
theorem bothE_bad {op : Int} {a b : List Sp} (h : chkS a ≠ 0 ∨ chkS b ≠ 0) : bothE op a b ≠ 0 := fun h' => by
  obtain ⟨h1, h2, _⟩ := both_parts h'
  rcases h with h | h
  · exact h h1
  · exact h h2
/-- what one of the three makes is right -/
theorem both_ok {op : Int} {a b : List Sp} (h : bothE op a b = 0) : chkS (bothR op a b) = 0 ∧ Canon (bothR op a b) ∧ ∀ n, has (bothR op a b) n = opB op (has a n) (has b n) := by
  obtain ⟨h1, h2, h3, h4⟩ := both_parts h
  rw [h4]
  obtain ⟨g1, _⟩ := byL_is op a b
  exact ⟨(chkS_ok _).2 ⟨h3, byL_isN op a b ((chkS_ok _).1 h1).2.1 ((chkS_ok _).1 h2).2.1, g1⟩, g1, byL_has op a b⟩
theorem byL_comm0 (a b : List Sp) : byL 0 a b = byL 0 b a := set_eq (byL_is _ _ _).1 (byL_is _ _ _).1 (fun n => by
  rw [byL_has, byL_has]; unfold opB; cases has a n <;> cases has b n <;> rfl)
theorem byL_comm1 (a b : List Sp) : byL 1 a b = byL 1 b a := set_eq (byL_is _ _ _).1 (byL_is _ _ _).1 (fun n => by
  rw [byL_has, byL_has]; unfold opB; cases has a n <;> cases has b n <;> rfl)
theorem bothE_comm (op : Int) (hop : op = 0 ∨ op = 1) (a b : List Sp) : (bothE op a b = 0 ↔ bothE op b a = 0) ∧ bothR op a b = bothR op b a := by
  have hc : byL op a b = byL op b a := by rcases hop with rfl | rfl; exact byL_comm0 a b; exact byL_comm1 a b
  have hi : bothE op a b = 0 ↔ bothE op b a = 0 := by
    constructor
    · intro h
      obtain ⟨h1, h2, h3, _⟩ := both_parts h
      rw [bothE_ok h2 h1, ← hc, if_neg (by omega)]
    · intro h
      obtain ⟨h1, h2, h3, _⟩ := both_parts h
      rw [bothE_ok h2 h1, hc, if_neg (by omega)]
  refine ⟨hi, ?_⟩
  unfold bothR
  by_cases h : bothE op a b = 0
  · rw [if_pos h, if_pos (hi.1 h), hc]
  · rw [if_neg h, if_neg (fun g => h (hi.2 g))]
/-- both ways distributed -/
theorem dist {a b c : List Sp} (h1 : bothE 0 a b = 0) (h2 : bothE 1 a c = 0) (h3 : bothE 1 b c = 0) (h4 : bothE 1 (bothR 0 a b) c = 0) (h5 : bothE 0 (bothR 1 a c) (bothR 1 b c) = 0) :
    bothR 1 (bothR 0 a b) c = bothR 0 (bothR 1 a c) (bothR 1 b c) := by
  refine set_eq (both_ok h4).2.1 (both_ok h5).2.1 (fun n => ?_)
  rw [(both_ok h4).2.2, (both_ok h5).2.2, (both_ok h1).2.2, (both_ok h2).2.2, (both_ok h3).2.2]
  unfold opB; cases has a n <;> cases has b n <;> cases has c n <;> rfl
/-- De Morgan -/
theorem lacks {a b c : List Sp} (h1 : bothE 0 a b = 0) (h2 : bothE 2 c (bothR 0 a b) = 0) (h3 : bothE 2 c a = 0) (h4 : bothE 2 (bothR 2 c a) b = 0) :
    bothR 2 c (bothR 0 a b) = bothR 2 (bothR 2 c a) b := by
  refine set_eq (both_ok h2).2.1 (both_ok h4).2.1 (fun n => ?_)
  rw [(both_ok h2).2.2, (both_ok h4).2.2, (both_ok h1).2.2, (both_ok h3).2.2]
  unfold opB; cases has a n <;> cases has b n <;> cases has c n <;> rfl
/-- days are counted -/
def cntR (f : Int → Bool) (lo : Int) : Nat → Int
  | 0 => 0
  | k + 1 => cntR f lo k + (if f (lo + k) then 1 else 0)
theorem cntR_or (f g h i : Int → Bool) (lo : Int) (ho : ∀ n, h n = (f n || g n)) (hi : ∀ n, i n = (f n && g n)) : ∀ k, cntR h lo k + cntR i lo k = cntR f lo k + cntR g lo k
  | 0 => rfl
  | k + 1 => by
    have ih := cntR_or f g h i lo ho hi k
    simp only [cntR, ho, hi]
    cases f (lo + k) <;> cases g (lo + k) <;> simp <;> omega
theorem cntR_split (f g d i : Int → Bool) (lo : Int) (hd : ∀ n, d n = (f n && !g n)) (hi : ∀ n, i n = (f n && g n)) : ∀ k, cntR i lo k + cntR d lo k = cntR f lo k
  | 0 => rfl
  | k + 1 => by
    have ih := cntR_split f g d i lo hd hi k
    simp only [cntR, hd, hi]
    cases f (lo + k) <;> cases g (lo + k) <;> simp <;> omega
theorem cntR_one (s : Sp) (lo : Int) (h1 : lo ≤ s.1) (h2 : s.1 ≤ s.2) : ∀ k : Nat, cntR (inS · s) lo k = if lo + k ≤ s.1 then 0 else if lo + k ≤ s.2 then lo + k - s.1 else s.2 - s.1
  | 0 => by
    rw [cntR]
    by_cases h : lo + ((0 : Nat) : Int) ≤ s.1
    · rw [if_pos h]
    · omega
  | k + 1 => by
    rw [cntR, cntR_one s lo h1 h2 k]
    have e : ((k + 1 : Nat) : Int) = (k : Int) + 1 := by omega
    have hi : inS (lo + k) s = decide (s.1 ≤ lo + k ∧ lo + k < s.2) := by unfold inS; rw [Bool.decide_and]
    simp only [hi, e]
    by_cases c1 : s.1 ≤ lo + (k : Int) ∧ lo + (k : Int) < s.2
    · rw [decide_eq_true c1, if_pos rfl]
      split <;> split <;> (try split) <;> (try split) <;> omega
    · rw [decide_eq_false c1]
      simp only [Bool.false_eq_true, if_false]
      split <;> split <;> (try split) <;> (try split) <;> omega
theorem cntR_none (f : Int → Bool) (lo : Int) (h : ∀ n, f n = false) : ∀ k, cntR f lo k = 0
  | 0 => rfl
  | k + 1 => by rw [cntR, cntR_none f lo h k, h]; rfl
theorem days_cnt (lo : Int) (k : Nat) : ∀ (l : List Sp), Canon l → (∀ s ∈ l, lo ≤ s.1 ∧ s.2 ≤ lo + k) → cntR (has l) lo k = days l
  | [], _, _ => cntR_none _ _ (fun _ => rfl) k
  | s :: l, hc, hb => by
    have ih := days_cnt lo k l (canon_tail hc) (fun t ht => hb t (by simp [ht]))
    have h1 := hb s (by simp)
    have h2 := canon_head hc
    have := cntR_or (inS · s) (has l) (has (s :: l)) (fun _ => false) lo (fun n => rfl) (fun n => by
      cases hi : inS n s with
      | false => rfl
      | true =>
        cases hh : has l n with
        | false => rfl
        | true =>
          obtain ⟨t, ht, g1, g2⟩ := (has_iff l n).1 hh
          have h3 := canon_from hc t ht
          unfold inS at hi
          simp at hi
          omega) k
    rw [ih, cntR_none _ _ (fun _ => rfl), cntR_one s lo h1.1 (by omega)] at this
    rw [days]
    split at this
    · omega
    · split at this <;> omega
theorem days_cntN {l : List Sp} (h : chkS l = 0) : days l = cntR (has l) (-1099511627776) 2199023255552 := by
  obtain ⟨_, h2, h3⟩ := (chkS_ok l).1 h
  exact (days_cnt _ _ l h3 (fun s hs => by have := h2 s hs; unfold isN at this; have e : ((2199023255552 : Nat) : Int) = 2199023255552 := rfl; omega)).symm
/-- inclusion and exclusion -/
theorem days_all {a b : List Sp} (h0 : bothE 0 a b = 0) (h1 : bothE 1 a b = 0) (h2 : bothE 2 a b = 0) :
    days (bothR 0 a b) + days (bothR 1 a b) = days a + days b ∧ days (bothR 1 a b) + days (bothR 2 a b) = days a := by
  obtain ⟨ca, cb, _⟩ := both_parts h0
  rw [days_cntN (both_ok h0).1, days_cntN (both_ok h1).1, days_cntN (both_ok h2).1, days_cntN ca, days_cntN cb]
  refine ⟨cntR_or _ _ _ _ _ (fun n => ?_) (fun n => ?_) _, cntR_split (has a) (has b) _ _ _ (fun n => ?_) (fun n => ?_) _⟩
  · rw [(both_ok h0).2.2]; unfold opB; cases has a n <;> cases has b n <;> rfl
  · rw [(both_ok h1).2.2]; unfold opB; cases has a n <;> cases has b n <;> rfl
  · rw [(both_ok h2).2.2]; unfold opB; cases has a n <;> cases has b n <;> rfl
  · rw [(both_ok h1).2.2]; unfold opB; cases has a n <;> cases has b n <;> rfl
theorem days_ge {l : List Sp} (h : chkS l = 0) : 0 ≤ days l ∧ days l ≤ 140737488355328 := by
  obtain ⟨h1, h2, h3⟩ := (chkS_ok l).1 h
  have hb := (days_bd l h2).2
  have hp : ∀ l : List Sp, Canon l → 0 ≤ days l := fun l => by
    induction l with
    | nil => intro _; exact Int.le_refl _
    | cons s l ih =>
      intro hc
      have h4 := ih (canon_tail hc)
      have h5 := canon_head hc
      rw [days]; omega
  exact ⟨hp l h3, by omega⟩
/-- as many starts as spans -/
theorem nodup_len : ∀ (xs ys : List Int), xs.Pairwise (· < ·) → (∀ x ∈ xs, x ∈ ys) → xs.length ≤ ys.length
  | [], ys, _, _ => Nat.zero_le _
  | x :: xs, ys, hp, hs => by
    have h1 := List.pairwise_cons.1 hp
    have hx := hs x (by simp)
    have ih := nodup_len xs (ys.erase x) h1.2 (fun y hy => (List.mem_erase_of_ne (by have := h1.1 y hy; omega)).2 (hs y (by simp [hy])))
    rw [List.length_erase_of_mem hx] at ih
    have := List.length_pos_of_mem hx
    simp; omega
theorem canon_starts : ∀ (l : List Sp), Canon l → (l.map (·.1)).Pairwise (· < ·)
  | [], _ => List.Pairwise.nil
  | s :: l, h => by
    rw [List.map_cons]
    refine List.pairwise_cons.2 ⟨fun y hy => ?_, canon_starts l (canon_tail h)⟩
    obtain ⟨t, ht, rfl⟩ := List.mem_map.1 hy
    have := canon_from h t ht; have := canon_head h; show s.1 < t.1; omega
theorem canon_before : ∀ {l : List Sp}, Canon l → ∀ s ∈ l, ¬ Mem l (s.1 - 1)
  | [], _, s, hs => by simp at hs
  | t :: l, h, s, hs => by
    rw [mem_cons]
    rintro (⟨g1, g2⟩ | hm)
    · rcases List.mem_cons.1 hs with rfl | hs
      · omega
      · have := canon_from h s hs; omega
    · rcases List.mem_cons.1 hs with rfl | hs
      · obtain ⟨u, hu, g1, g2⟩ := hm
        have := canon_from h u hu; have := canon_head h; omega
      · exact canon_before (canon_tail h) s hs hm
theorem canon_pos : ∀ {l : List Sp}, Canon l → ∀ s ∈ l, s.1 < s.2
  | [], _, s, hs => by simp at hs
  | t :: l, h, s, hs => by
    rcases List.mem_cons.1 hs with rfl | hs
    · exact canon_head h
    · exact canon_pos (canon_tail h) s hs
theorem canon_len {C l : List Sp} (hC : Canon C) (h : ∀ n, has C n = has l n) : C.length ≤ l.length := by
  have := nodup_len (C.map (·.1)) (l.map (·.1)) (canon_starts C hC) (fun x hx => by
    obtain ⟨s, hs, rfl⟩ := List.mem_map.1 hx
    have h1 : has l s.1 = true := by rw [← h, has_iff]; exact ⟨s, hs, Int.le_refl _, canon_pos hC s hs⟩
    have h2 : has l (s.1 - 1) = false := by
      rw [← h]
      cases hh : has C (s.1 - 1) with
      | false => rfl
      | true => exact absurd ((has_iff _ _).1 hh) (canon_before hC s hs)
    obtain ⟨p, hp, g1, g2⟩ := (has_iff _ _).1 h1
    refine List.mem_map.2 ⟨p, hp, ?_⟩
    show p.1 = s.1
    rcases Int.lt_or_le p.1 s.1 with c | c
    · have : has l (s.1 - 1) = true := (has_iff _ _).2 ⟨p, hp, by omega, by omega⟩
      rw [h2] at this; cases this
    · omega)
  simpa using this
theorem byL0_has (l : List Sp) (n : Int) : has (byL 0 l []) n = has l n := by rw [byL_has]; simp [opB, has]
/-- of a set it is itself -/
theorem of_again {l : List Sp} (h : ofE l = 0) : ofE (ofR l) = 0 ∧ ofR (ofR l) = ofR l ∧ chkS (ofR l) = 0 := by
  have hr : ofR l = byL 0 l [] := by unfold ofR; rw [if_pos h]
  obtain ⟨h1, h2⟩ := (ofE_ok l).1 h
  have hc := (byL_is 0 l []).1
  have hlen := canon_len hc (byL0_has l)
  have hN := byL_isN 0 l [] (fun s hs => (h2 s hs).1) (by simp)
  rw [hr]
  have he : ofE (byL 0 l []) = 0 := (ofE_ok _).2 ⟨by omega, fun s hs => ⟨hN s hs, Int.le_of_lt (canon_pos hc s hs)⟩⟩
  refine ⟨he, ?_, (chkS_ok _).2 ⟨by omega, hN, hc⟩⟩
  unfold ofR
  rw [if_pos he]
  exact set_eq (byL_is _ _ _).1 hc (fun n => byL0_has _ n)
/-- cut, and turned round -/
def piece (l : List Sp) (i at' : Int) (k : Nat) : List Sp := if (k : Int) = i then [(at', (l.getD k (0, 0)).2), ((l.getD k (0, 0)).1, at')] else [l.getD k (0, 0)]
def cutM (l : List Sp) (i at' : Int) : Nat → List Sp
  | 0 => []
  | m + 1 => cutM l i at' m ++ piece l i at' (l.length - 1 - m)
theorem has_app (l l' : List Sp) (n : Int) : has (l ++ l') n = (has l n || has l' n) := by unfold has; rw [List.any_append]
theorem piece_has (l : List Sp) (i at' : Int) (k : Nat) (hk : k < l.length) (h : (k : Int) = i → l[k].1 ≤ at' ∧ at' ≤ l[k].2) (n : Int) : has (piece l i at' k) n = inS n l[k] := by
  unfold piece
  have hd : l.getD k (0, 0) = l[k] := by simp [List.getD, hk]
  rw [hd]
  by_cases c : (k : Int) = i
  · rw [if_pos c]
    have := h c
    unfold has inS
    rw [Bool.eq_iff_iff]
    simp
    omega
  · rw [if_neg c]
    unfold has inS; simp
theorem cutM_has (l : List Sp) (i at' : Int) (h : ∀ k (hk : k < l.length), (k : Int) = i → l[k].1 ≤ at' ∧ at' ≤ l[k].2) (n : Int) : ∀ m, m ≤ l.length → has (cutM l i at' m) n = has (l.drop (l.length - m)) n
  | 0, _ => by rw [Nat.sub_zero, List.drop_length]; rfl
  | m + 1, hm => by
    have hk : l.length - (m + 1) < l.length := by omega
    rw [cutM, has_app, cutM_has l i at' h n m (by omega), show l.length - 1 - m = l.length - (m + 1) by omega, piece_has l i at' _ hk (h _ hk), List.drop_eq_getElem_cons hk, show l.length - (m + 1) + 1 = l.length - m by omega]
    show (has _ n || inS n _) = (inS n _ || has _ n)
    rw [Bool.or_comm]
theorem cutM_len (l : List Sp) (i at' : Int) : ∀ m, m ≤ l.length → (cutM l i at' m).length ≤ m + (if ((l.length - m : Nat) : Int) ≤ i then 1 else 0)
  | 0, _ => by simp [cutM]
  | m + 1, hm => by
    have ih := cutM_len l i at' m (by omega)
    rw [cutM, List.length_append]
    unfold piece
    by_cases c : ((l.length - 1 - m : Nat) : Int) = i
    · rw [if_pos c, if_pos (by omega)]
      rw [if_neg (by omega)] at ih
      simp; omega
    · rw [if_neg c]
      simp only [List.length_cons, List.length_nil]
      split at ih
      · rw [if_pos (by omega)]; omega
      · split <;> omega
theorem cutM_ok (l : List Sp) (i at' : Int) (hN : ∀ s ∈ l, isN s ∧ s.1 ≤ s.2) (h : ∀ k (hk : k < l.length), (k : Int) = i → l[k].1 ≤ at' ∧ at' ≤ l[k].2) : ∀ m, m ≤ l.length → ∀ s ∈ cutM l i at' m, isN s ∧ s.1 ≤ s.2
  | 0, _, s, hs => by simp [cutM] at hs
  | m + 1, hm, s, hs => by
    rw [cutM] at hs
    rcases List.mem_append.1 hs with hs | hs
    · exact cutM_ok l i at' hN h m (by omega) s hs
    · have hk : l.length - 1 - m < l.length := by omega
      have hd : l.getD (l.length - 1 - m) (0, 0) = l[l.length - 1 - m] := by simp [List.getD, hk]
      have hn := hN _ (List.getElem_mem hk)
      unfold piece at hs
      rw [hd] at hs
      split at hs
      · rename_i c
        have h2 := h _ hk c
        unfold isN at *
        simp at hs
        rcases hs with rfl | rfl
        · simp only; omega
        · simp only; omega
      · simp at hs; subst hs; exact hn
theorem cut_same {l : List Sp} {i at' : Int} (he : ofE l = 0) (hl : l.length ≠ 64) (h : ∀ k (hk : k < l.length), (k : Int) = i → l[k].1 ≤ at' ∧ at' ≤ l[k].2) : ofE (cutM l i at' l.length) = 0 ∧ ofR (cutM l i at' l.length) = ofR l := by
  obtain ⟨h1, h2⟩ := (ofE_ok l).1 he
  have hlen := cutM_len l i at' l.length (Nat.le_refl _)
  have hE : ofE (cutM l i at' l.length) = 0 := (ofE_ok _).2 ⟨by split at hlen <;> omega, cutM_ok l i at' h2 h l.length (Nat.le_refl _)⟩
  refine ⟨hE, ?_⟩
  unfold ofR
  rw [if_pos hE, if_pos he]
  refine set_eq (byL_is _ _ _).1 (byL_is _ _ _).1 (fun n => ?_)
  rw [byL0_has, byL0_has, cutM_has l i at' h n l.length (Nat.le_refl _), Nat.sub_self, List.drop_zero]
end Sn
end Go.Proofs.Ytcgncmlldjblmaa
