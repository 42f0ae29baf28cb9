/- Sets of days, plain law: what is open at a day, and the document's own making of a set from its ends. -/
import Derived.Test.YtcgncmlldjblmaaSpansCheck
set_option linter.unusedSimpArgs false
set_option linter.unusedVariables false
namespace Go.Proofs.Ytcgncmlldjblmaa
open Go.RowKit
namespace Sn
/-- is a day of these spans? -/
def has (l : List Sp) (n : Int) : Bool := l.any (fun s => decide (s.1 ≤ n) && decide (n < s.2))
theorem has_iff (l : List Sp) (n : Int) : has l n = true ↔ Mem l n := by
  unfold has Mem
  rw [List.any_eq_true]
  constructor
  · rintro ⟨s, h1, h2⟩; simp at h2; exact ⟨s, h1, h2⟩
  · rintro ⟨s, h1, h2, h3⟩; exact ⟨s, h1, by simp [h2, h3]⟩
/-- how many are open at a day -/
def opn : List Sp → Int → Int
  | [], _ => 0
  | s :: l, n => (if s.1 ≤ n ∧ n < s.2 then 1 else 0) + opn l n
theorem opn_ge : ∀ (l : List Sp) (n : Int), 0 ≤ opn l n
  | [], _ => Int.le_refl _
  | s :: l, n => by have := opn_ge l n; unfold opn; split <;> omega
theorem opn_pos : ∀ (l : List Sp) (n : Int), 0 < opn l n ↔ has l n = true
  | [], n => by simp [opn, has]
  | s :: l, n => by
    have h1 := opn_ge l n
    have h2 := opn_pos l n
    have h3 : has (s :: l) n = (decide (s.1 ≤ n) && decide (n < s.2) || has l n) := rfl
    rw [h3, opn]
    by_cases c : s.1 ≤ n ∧ n < s.2
    · rw [if_pos c]; simp [c.1, c.2]; omega
    · rw [if_neg c]
      have hc : (decide (s.1 ≤ n) && decide (n < s.2)) = false := by
        rw [← Bool.decide_and]; exact decide_eq_false c
      rw [hc, Bool.false_or, ← h2]; omega
theorem edges_cons (f s : Int) (p : Sp) (l : List Sp) : edgesOf f s (p :: l) = ⟨p.1, f, s⟩ :: ⟨p.2, -f, -s⟩ :: edgesOf f s l := rfl
theorem cnt_first (f s n : Int) : ∀ (l : List Sp), (∀ p ∈ l, p.1 ≤ p.2) → cnt Ed.first (edgesOf f s l) n = f * opn l n
  | [], _ => by simp [edgesOf, cnt, opn]
  | p :: l, h => by
    have h1 := h p (by simp)
    rw [edges_cons, cnt, cnt, cnt_first f s n l (fun q hq => h q (by simp [hq])), opn, Int.mul_add]
    simp only
    by_cases c : p.1 ≤ n <;> by_cases c2 : p.2 ≤ n
    · rw [if_pos c, if_pos c2, if_neg (by omega)]; omega
    · rw [if_pos c, if_neg c2, if_pos (by omega)]; omega
    · omega
    · rw [if_neg c, if_neg c2, if_neg (by omega)]; omega
theorem cnt_second (f s n : Int) : ∀ (l : List Sp), (∀ p ∈ l, p.1 ≤ p.2) → cnt Ed.second (edgesOf f s l) n = s * opn l n
  | [], _ => by simp [edgesOf, cnt, opn]
  | p :: l, h => by
    have h1 := h p (by simp)
    rw [edges_cons, cnt, cnt, cnt_second f s n l (fun q hq => h q (by simp [hq])), opn, Int.mul_add]
    simp only
    by_cases c : p.1 ≤ n <;> by_cases c2 : p.2 ≤ n
    · rw [if_pos c, if_pos c2, if_neg (by omega)]; omega
    · rw [if_pos c, if_neg c2, if_pos (by omega)]; omega
    · omega
    · rw [if_neg c, if_neg c2, if_neg (by omega)]; omega
theorem tot_edges (f s : Int) : ∀ (l : List Sp), tot Ed.first (edgesOf f s l) = 0 ∧ tot Ed.second (edgesOf f s l) = 0
  | [] => ⟨rfl, rfl⟩
  | p :: l => by
    have := tot_edges f s l
    rw [edges_cons]; simp only [tot]; omega
theorem edges_len (f s : Int) : ∀ (l : List Sp), (edgesOf f s l).length = 2 * l.length
  | [] => rfl
  | p :: l => by rw [edges_cons, List.length_cons, List.length_cons, edges_len f s l, List.length_cons]; omega
theorem tot_perm (g : Ed → Int) {l l' : List Ed} (h : l.Perm l') : tot g l = tot g l' := by
  induction h with
  | nil => rfl
  | cons x _ ih => simp only [tot, ih]
  | swap x y l => simp only [tot]; omega
  | trans _ _ ih1 ih2 => rw [ih1, ih2]
theorem sweepL_len (want : Int → Int → Bool) : ∀ (l : List Ed) (f s : Int) (on : Bool) (out : List Sp), (sweepL want l f s on out).length ≤ out.length + l.length
  | [], _, _, _, _ => by simp [sweepL]
  | e :: l, f, s, on, out => by
    unfold sweepL
    split
    · have := sweepL_len want l (f + e.first) (s + e.second) on out
      simp; omega
    · have h1 := sweepL_len want l (f + e.first) (s + e.second) (want (f + e.first) (s + e.second)) (sweepStep want e (f + e.first) (s + e.second) on out)
      have h2 : (sweepStep want e (f + e.first) (s + e.second) on out).length ≤ out.length + 1 := by
        unfold sweepStep
        split
        · simp
        · split
          · unfold setTo
            split
            · simp; try omega
            · omega
          · omega
      simp; omega
/-- the sweep of two sets: the one form of the days that are wanted -/
theorem sweep_two (want : Int → Int → Bool) (a b : List Sp) (ys : List Ed) (ha : ∀ p ∈ a, p.1 ≤ p.2) (hb : ∀ p ∈ b, p.1 ≤ p.2) (hp : ys.Perm (edgesOf 1 0 a ++ edgesOf 0 1 b)) (hr : Ris ys) (h0 : want 0 0 = false) :
    Canon (sweepL want ys 0 0 false []) ∧ ∀ n, Mem (sweepL want ys 0 0 false []) n ↔ want (opn a n) (opn b n) = true := by
  have t1 : tot Ed.first ys = 0 := by rw [tot_perm _ hp, tot_app, (tot_edges 1 0 a).1, (tot_edges 0 1 b).1]; rfl
  have t2 : tot Ed.second ys = 0 := by rw [tot_perm _ hp, tot_app, (tot_edges 1 0 a).2, (tot_edges 0 1 b).2]; rfl
  have c1 : ∀ n, cnt Ed.first ys n = opn a n := fun n => by rw [cnt_perm _ hp, cnt_app, cnt_first _ _ _ _ ha, cnt_first _ _ _ _ hb]; omega
  have c2 : ∀ n, cnt Ed.second ys n = opn b n := fun n => by rw [cnt_perm _ hp, cnt_app, cnt_second _ _ _ _ ha, cnt_second _ _ _ _ hb]; omega
  have := sweep_is want ys (by rw [t1, t2]; exact h0) ys [] false [] rfl hr (fun x hx => by simp at hx) (fun e he => ?_) (fun hl => ?_)
  · obtain ⟨g1, g2⟩ := this
    refine ⟨g1, fun n => ?_⟩
    have := g2 n
    rw [c1, c2] at this
    exact this
  · show Canon [] ∧ (∀ s ∈ ([] : List Sp), s.2 < e.at_) ∧ ∀ n, n < e.at_ → (Mem [] n ↔ want (cnt Ed.first ys n) (cnt Ed.second ys n) = true)
    refine ⟨trivial, by simp, fun n hn => ?_⟩
    have hall : ∀ x ∈ ys, n < x.at_ := fun x hx => by
      cases ys with
      | nil => simp at hx
      | cons y ys =>
        simp only [List.head?_cons, Option.some.injEq] at he
        subst he
        rcases List.mem_cons.1 hx with rfl | hx
        · exact hn
        · have := ris_ge hr x hx; omega
    rw [cnt_none _ _ _ hall, cnt_none _ _ _ hall, h0]
    simp [mem_nil]
  · subst hl
    refine ⟨rfl, trivial, fun n => ?_⟩
    simp [cnt, h0, mem_nil]
/-- which of both: 0: of either, 1: of both, 2: of the first one alone -/
def opB (op : Int) (x y : Bool) : Bool := (op == 0 && (x || y)) || (op == 1 && (x && y)) || (op == 2 && (x && !y))
def wnt (op : Int) (m n : Int) : Bool := if op = 0 then decide (0 < m + n) else if op = 1 then decide (0 < m) && decide (0 < n) else decide (0 < m) && decide (n = 0)
theorem wnt_is (op : Int) (h : op = 0 ∨ op = 1 ∨ op = 2) (a b : List Sp) (n : Int) : wnt op (opn a n) (opn b n) = opB op (has a n) (has b n) := by
  have h1 := opn_ge a n; have h2 := opn_ge b n
  have h3 := opn_pos a n; have h4 := opn_pos b n
  unfold wnt opB
  generalize opn a n = x at *; generalize opn b n = y at *
  generalize has a n = p at *; generalize has b n = q at *
  rcases h with rfl | rfl | rfl <;> cases p <;> cases q <;> simp at h3 h4 ⊢ <;> omega
/-- a rising list with a number, once -/
def withL (n : Int) : Bool → List Int → List Int
  | d, [] => if d then [] else [n]
  | d, x :: l => (if (!d && decide (n ≤ x)) = true then [n] else []) ++ (if x = n then [] else [x]) ++ withL n (d || decide (n ≤ x)) l
abbrev Up (l : List Int) : Prop := l.Pairwise (· < ·)
theorem with_true (n : Int) : ∀ l : List Int, withL n true l = l.filter (fun x => !decide (x = n))
  | [] => rfl
  | x :: l => by
    unfold withL
    rw [Bool.true_or, with_true n l]
    by_cases c : x = n <;> simp [c]
theorem with_mem (n : Int) : ∀ (l : List Int) (y : Int), y ∈ withL n false l ↔ y = n ∨ y ∈ l
  | [], y => by simp [withL]
  | x :: l, y => by
    unfold withL
    by_cases c : n ≤ x
    · have hd : decide (n ≤ x) = true := decide_eq_true c
      rw [hd, Bool.false_or, with_true]
      simp only [Bool.not_false, Bool.and_self, if_true, List.mem_append, List.mem_filter, List.mem_cons]
      by_cases c2 : x = n
      · subst c2
        by_cases c3 : y = x <;> simp [c3]
      · by_cases c3 : y = n
        · simp [c3, c2]
        · simp [c3, c2]
    · have hd : decide (n ≤ x) = false := decide_eq_false c
      rw [hd, Bool.false_or, if_neg (by simp), if_neg (show ¬ x = n by omega)]
      simp only [List.nil_append, List.mem_append, List.mem_cons, with_mem n l y, List.not_mem_nil, or_false]
      constructor
      · rintro (h | h | h)
        · exact .inr (.inl h)
        · exact .inl h
        · exact .inr (.inr h)
      · rintro (h | h | h)
        · exact .inr (.inl h)
        · exact .inl h
        · exact .inr (.inr h)
theorem with_up (n : Int) : ∀ (l : List Int), Up l → Up (withL n false l)
  | [], _ => by simp [withL]
  | x :: l, h => by
    have h1 := List.pairwise_cons.1 h
    unfold withL
    by_cases c : n ≤ x
    · have hd : decide (n ≤ x) = true := decide_eq_true c
      rw [hd, Bool.false_or, with_true]
      simp only [Bool.not_false, Bool.and_self, if_true]
      have hf : Up (l.filter (fun x => !decide (x = n))) := h1.2.filter _
      by_cases c2 : x = n
      · rw [if_pos c2, List.append_nil, List.singleton_append]
        exact List.pairwise_cons.2 ⟨fun y hy => by have := h1.1 y (List.mem_filter.1 hy).1; omega, hf⟩
      · rw [if_neg c2]
        refine List.pairwise_cons.2 ⟨fun y hy => ?_, List.pairwise_cons.2 ⟨fun y hy => h1.1 y (List.mem_filter.1 hy).1, hf⟩⟩
        rcases List.mem_cons.1 hy with rfl | hy
        · omega
        · have := h1.1 y (List.mem_filter.1 hy).1; omega
    · have hd : decide (n ≤ x) = false := decide_eq_false c
      rw [hd, Bool.false_or, if_neg (by simp), if_neg (show ¬ x = n by omega), List.nil_append, List.singleton_append]
      refine List.pairwise_cons.2 ⟨fun y hy => ?_, with_up n l h1.2⟩
      rcases (with_mem n l y).1 hy with rfl | hy
      · omega
      · exact h1.1 y hy
theorem with_len (n : Int) : ∀ (l : List Int) (d : Bool), (withL n d l).length ≤ l.length + 1
  | [], d => by cases d <;> simp [withL]
  | x :: l, d => by
    have h := with_len n l (d || decide (n ≤ x))
    cases d with
    | true =>
      rw [with_true]
      have := List.length_filter_le (fun y => !decide (y = n)) (x :: l)
      omega
    | false =>
      unfold withL
      by_cases c : n ≤ x
      · have hd : decide (n ≤ x) = true := decide_eq_true c
        rw [hd, Bool.false_or, with_true]
        have := List.length_filter_le (fun y => !decide (y = n)) l
        simp only [List.length_append, List.length_cons]
        split <;> split <;> simp <;> omega
      · have hd : decide (n ≤ x) = false := decide_eq_false c
        rw [hd] at h ⊢
        simp only [List.length_append, List.length_cons]
        split <;> split <;> simp at * <;> omega
/-- ends of spans, rising, each once -/
def endsL (l : List Sp) : List Int := l.foldl (fun out s => withL s.2 false (withL s.1 false out)) []
theorem endsL_snoc (l : List Sp) (s : Sp) : endsL (l ++ [s]) = withL s.2 false (withL s.1 false (endsL l)) := by unfold endsL; rw [List.foldl_append]; rfl
theorem ends_up (l : List Sp) : Up (endsL l) := by
  suffices h : ∀ (l : List Sp) (o : List Int), Up o → Up (l.foldl (fun out s => withL s.2 false (withL s.1 false out)) o) from h l [] List.Pairwise.nil
  intro l
  induction l with
  | nil => intro o h; exact h
  | cons s l ih => intro o h; exact ih _ (with_up _ _ (with_up _ _ h))
theorem ends_mem (l : List Sp) (y : Int) : y ∈ endsL l ↔ ∃ s ∈ l, y = s.1 ∨ y = s.2 := by
  suffices h : ∀ (l : List Sp) (o : List Int), y ∈ l.foldl (fun out s => withL s.2 false (withL s.1 false out)) o ↔ y ∈ o ∨ ∃ s ∈ l, y = s.1 ∨ y = s.2 by
    have := h l []; simp at this; unfold endsL; rw [this]; simp
  intro l
  induction l with
  | nil => intro o; simp
  | cons s l ih =>
    intro o
    rw [List.foldl_cons, ih, with_mem, with_mem]
    constructor
    · rintro ((h | h | h) | ⟨t, h1, h2⟩)
      · exact .inr ⟨s, by simp, .inr h⟩
      · exact .inr ⟨s, by simp, .inl h⟩
      · exact .inl h
      · exact .inr ⟨t, by simp [h1], h2⟩
    · rintro (h | ⟨t, h1, h2⟩)
      · exact .inl (.inr (.inr h))
      · rcases List.mem_cons.1 h1 with rfl | h1
        · rcases h2 with h2 | h2
          · exact .inl (.inr (.inl h2))
          · exact .inl (.inl h2)
        · exact .inr ⟨t, h1, h2⟩
theorem ends_len (l : List Sp) : (endsL l).length ≤ 2 * l.length := by
  suffices h : ∀ (l : List Sp) (o : List Int), (l.foldl (fun out s => withL s.2 false (withL s.1 false out)) o).length ≤ o.length + 2 * l.length by
    have := h l []; simp at this; exact this
  intro l
  induction l with
  | nil => intro o; simp
  | cons s l ih =>
    intro o
    rw [List.foldl_cons]
    have h1 := ih (withL s.2 false (withL s.1 false o))
    have h2 := with_len s.2 (withL s.1 false o) false
    have h3 := with_len s.1 o false
    simp; omega
/-- the last one may end later -/
theorem canon_stretch : ∀ {C : List Sp} {p x y : Int}, Canon (C ++ [(p, x)]) → x ≤ y → Canon (C ++ [(p, y)])
  | [], p, x, y, h, hxy => by have : p < x := h; show p < y; omega
  | [s], p, x, y, h, hxy => by
    obtain ⟨h1, h2, h3⟩ : s.1 < s.2 ∧ s.2 < p ∧ p < x := h
    exact ⟨h1, h2, by show p < y; omega⟩
  | s :: t :: C, p, x, y, h, hxy => ⟨h.1, h.2.1, canon_stretch (C := t :: C) h.2.2 hxy⟩
theorem canon_last : ∀ {C : List Sp} {p x : Int}, Canon (C ++ [(p, x)]) → p < x
  | [], p, x, h => h
  | s :: C, p, x, h => canon_last (C := C) (canon_tail h)
/-- where the last one ends below a day, all do -/
theorem canon_below : ∀ {l : List Sp} {x : Int}, Canon l → (∀ s ∈ l, s.2 ≤ x) → (∀ t, l.getLast? = some t → t.2 ≠ x) → ∀ s ∈ l, s.2 < x
  | [], x, _, _, _, s, hs => by simp at hs
  | [t], x, h, h1, h2, s, hs => by
    simp at hs; subst hs
    have := h1 s (by simp); have := h2 s rfl; omega
  | t :: u :: l, x, h, h1, h2, s, hs => by
    have ih := canon_below (l := u :: l) h.2.2 (fun s hs => h1 s (by simp at hs ⊢; exact .inr hs)) (fun r hr => h2 r (by rw [List.getLast?_cons_cons]; exact hr))
    rcases List.mem_cons.1 hs with rfl | hs
    · have h3 := ih u (by simp)
      have h4 := h.2.1
      have h5 := canon_head h.2.2
      omega
    · exact ih s hs
/-- where the last span ends -/
def lastTo (out : List Sp) : Option Int := out.getLast?.map (·.2)
/-- the days from an end to the next one -/
def byStep (W : Int → Bool) (out : List Sp) (x y : Int) : List Sp := if W x then (if lastTo out = some x then setTo out y else out ++ [(x, y)]) else out
def byW (W : Int → Bool) : List Int → List Sp → List Sp
  | x :: y :: l, out => byW W (y :: l) (byStep W out x y)
  | _, out => out
theorem byW_is (W : Int → Bool) (E : List Int) (hE : Up E) (hc : ∀ n m, (∀ e ∈ E, e ≤ n ↔ e ≤ m) → W n = W m) (hall : ∀ n, (∀ e ∈ E, e ≤ n) → W n = false) :
    ∀ (l P : List Int) (x : Int) (out : List Sp), E = P ++ x :: l → Canon out → (∀ s ∈ out, s.2 ≤ x) → (∀ n, n < x → (Mem out n ↔ W n = true)) → Canon (byW W (x :: l) out) ∧ ∀ n, Mem (byW W (x :: l) out) n ↔ W n = true := by
  intro l
  induction l with
  | nil =>
    intro P x out he h1 h2 h3
    refine ⟨h1, fun n => ?_⟩
    show Mem out n ↔ _
    rcases Int.lt_or_le n x with c | c
    · exact h3 n c
    · rw [hall n (fun e hm => by
        subst he
        have hp := List.pairwise_append.1 hE
        rcases List.mem_append.1 hm with hm | hm
        · have := hp.2.2 e hm x (by simp); omega
        · simp at hm; omega)]
      constructor
      · rintro ⟨s, hs, g1, g2⟩; have := h2 s hs; omega
      · intro h; simp at h
  | cons y l ih =>
    intro P x out he h1 h2 h3
    have hp := List.pairwise_append.1 (he ▸ hE)
    have hq := List.pairwise_cons.1 hp.2.1
    have hxy : x < y := hq.1 y (by simp)
    have hW : ∀ n, x ≤ n → n < y → W n = W x := fun n g1 g2 => hc n x (fun e hm => by
      rw [he] at hm
      rcases List.mem_append.1 hm with hm | hm
      · have := hp.2.2 e hm x (by simp); omega
      · rcases List.mem_cons.1 hm with rfl | hm
        · omega
        · have h4 : y ≤ e := by
            rcases List.mem_cons.1 hm with rfl | hm
            · exact Int.le_refl _
            · have := (List.pairwise_cons.1 hq.2).1 e hm; omega
          omega)
    show Canon (byW W (y :: l) (byStep W out x y)) ∧ ∀ n, Mem (byW W (y :: l) (byStep W out x y)) n ↔ W n = true
    refine ih (P ++ [x]) y _ (by rw [he]; simp) ?_ ?_ ?_
    all_goals unfold byStep
    all_goals cases hx : W x
    all_goals simp only [Bool.false_eq_true, if_false, if_true]
    · exact h1
    · split
      · rename_i hl
        obtain ⟨C, p, rfl⟩ : ∃ C p, out = C ++ [(p, x)] := by
          unfold lastTo at hl
          cases hg : out.getLast? with
          | none => rw [hg] at hl; simp at hl
          | some s =>
            rw [hg] at hl
            simp at hl
            obtain ⟨C, rfl⟩ := List.getLast?_eq_some_iff.1 hg
            exact ⟨C, s.1, by rw [← hl]⟩
        rw [setTo_snoc]
        exact canon_stretch h1 (Int.le_of_lt hxy)
      · rename_i hl
        refine canon_snoc h1 hxy (fun s hs => ?_)
        exact canon_below h1 (fun t ht => h2 t ht) (fun t ht e => hl (by unfold lastTo; rw [ht]; simp [e])) s hs
    · intro s hs; have := h2 s hs; omega
    · split
      · rename_i hl
        intro s hs
        unfold setTo at hs
        split at hs
        · rcases List.mem_append.1 hs with hs | hs
          · have := h2 s (List.dropLast_subset _ hs); omega
          · simp at hs; subst hs; exact Int.le_refl _
        · have := h2 s hs; omega
      · intro s hs
        rcases List.mem_append.1 hs with hs | hs
        · have := h2 s hs; omega
        · simp at hs; subst hs; exact Int.le_refl _
    · intro n hn
      rcases Int.lt_or_le n x with c | c
      · exact h3 n c
      · rw [hW n c hn, hx]
        constructor
        · rintro ⟨s, hs, g1, g2⟩; have := h2 s hs; omega
        · intro h; simp at h
    · intro n hn
      split
      · rename_i hl
        obtain ⟨C, p, rfl⟩ : ∃ C p, out = C ++ [(p, x)] := by
          unfold lastTo at hl
          cases hg : out.getLast? with
          | none => rw [hg] at hl; simp at hl
          | some s =>
            rw [hg] at hl
            simp at hl
            obtain ⟨C, rfl⟩ := List.getLast?_eq_some_iff.1 hg
            exact ⟨C, s.1, by rw [← hl]⟩
        rw [setTo_snoc, mem_app, mem_cons]
        have hpx : p < x := canon_last h1
        rcases Int.lt_or_le n x with c | c
        · rw [← h3 n c, mem_app, mem_cons]
          simp only
          have : ¬ Mem [] n := mem_nil n
          constructor
          · rintro (h | ⟨g1, g2⟩ | h)
            · exact .inl h
            · exact .inr (.inl ⟨g1, c⟩)
            · exact absurd h this
          · rintro (h | ⟨g1, g2⟩ | h)
            · exact .inl h
            · exact .inr (.inl ⟨g1, hn⟩)
            · exact absurd h this
        · rw [hW n c hn, hx]
          exact ⟨fun _ => rfl, fun _ => .inr (.inl ⟨by show p ≤ n; omega, hn⟩)⟩
      · rw [mem_app, mem_cons]
        rcases Int.lt_or_le n x with c | c
        · rw [← h3 n c]
          constructor
          · rintro (h | ⟨g1, g2⟩ | h)
            · exact h
            · simp at g1; omega
            · exact absurd h (mem_nil n)
          · exact .inl
        · rw [hW n c hn, hx]
          exact ⟨fun _ => rfl, fun _ => .inr (.inl ⟨c, hn⟩)⟩
/-- the document's set -/
def byL (op : Int) (a b : List Sp) : List Sp := byW (fun n => opB op (has a n) (has b n)) (endsL (a ++ b)) []
theorem has_depends (l : List Sp) (E : List Int) (hm : ∀ s ∈ l, s.1 ∈ E ∧ s.2 ∈ E) (n m : Int) (h : ∀ e ∈ E, e ≤ n ↔ e ≤ m) : has l n = has l m := by
  rw [Bool.eq_iff_iff, has_iff, has_iff]
  constructor
  · rintro ⟨s, hs, g1, g2⟩
    have := h _ (hm s hs).1; have := h _ (hm s hs).2
    exact ⟨s, hs, by omega, by omega⟩
  · rintro ⟨s, hs, g1, g2⟩
    have := h _ (hm s hs).1; have := h _ (hm s hs).2
    exact ⟨s, hs, by omega, by omega⟩
theorem has_none (l : List Sp) (n : Int) (h : (∀ s ∈ l, s.2 ≤ n) ∨ ∀ s ∈ l, n < s.1) : has l n = false := by
  cases hh : has l n with
  | false => rfl
  | true =>
    obtain ⟨s, hs, g1, g2⟩ := (has_iff l n).1 hh
    rcases h with h | h
    · have := h s hs; omega
    · have := h s hs; omega
theorem opB_ff (op : Int) : opB op false false = false := by unfold opB; simp
theorem byL_is (op : Int) (a b : List Sp) : Canon (byL op a b) ∧ ∀ n, Mem (byL op a b) n ↔ opB op (has a n) (has b n) = true := by
  have hma : ∀ s ∈ a, s.1 ∈ endsL (a ++ b) ∧ s.2 ∈ endsL (a ++ b) := fun s hs => ⟨(ends_mem _ _).2 ⟨s, by simp [hs], .inl rfl⟩, (ends_mem _ _).2 ⟨s, by simp [hs], .inr rfl⟩⟩
  have hmb : ∀ s ∈ b, s.1 ∈ endsL (a ++ b) ∧ s.2 ∈ endsL (a ++ b) := fun s hs => ⟨(ends_mem _ _).2 ⟨s, by simp [hs], .inl rfl⟩, (ends_mem _ _).2 ⟨s, by simp [hs], .inr rfl⟩⟩
  have hup := ends_up (a ++ b)
  unfold byL
  generalize endsL (a ++ b) = E at *
  have hlow : ∀ n, (∀ e ∈ E, n < e) → opB op (has a n) (has b n) = false := fun n h => by
    rw [has_none a n (.inr (fun s hs => h _ (hma s hs).1)), has_none b n (.inr (fun s hs => h _ (hmb s hs).1)), opB_ff]
  cases E with
  | nil =>
    refine ⟨trivial, fun n => ?_⟩
    rw [hlow n (fun e he => by simp at he)]
    simp [byW, mem_nil]
  | cons x l =>
    refine byW_is _ (x :: l) hup (fun n m h => ?_) (fun n h => ?_) l [] x [] rfl trivial (fun s hs => by simp at hs) (fun n hn => ?_)
    · show opB op (has a n) (has b n) = opB op (has a m) (has b m)
      rw [has_depends a _ hma n m h, has_depends b _ hmb n m h]
    · show opB op (has a n) (has b n) = false
      rw [has_none a n (.inl (fun s hs => h _ (hma s hs).2)), has_none b n (.inl (fun s hs => h _ (hmb s hs).2)), opB_ff]
    · show Mem [] n ↔ opB op (has a n) (has b n) = true
      rw [hlow n (fun e he => by
        rcases List.mem_cons.1 he with rfl | he
        · exact hn
        · have := (List.pairwise_cons.1 hup).1 e he; omega)]
      simp [mem_nil]
theorem setTo_len (l : List Sp) (y : Int) : (setTo l y).length = l.length := by
  unfold setTo
  split
  · rename_i s hs
    have : l ≠ [] := by intro e; subst e; simp at hs
    have := List.length_pos_iff.2 this
    simp; omega
  · rfl
theorem byStep_len (W : Int → Bool) (out : List Sp) (x y : Int) : (byStep W out x y).length ≤ out.length + 1 := by
  unfold byStep
  split
  · split
    · rw [setTo_len]; omega
    · simp
  · omega
theorem byW_len (W : Int → Bool) : ∀ (l : List Int) (out : List Sp), (byW W l out).length ≤ out.length + l.length
  | [], out => by simp [byW]
  | [x], out => by simp [byW]
  | x :: y :: l, out => by
    have h1 := byW_len W (y :: l) (byStep W out x y)
    have h2 := byStep_len W out x y
    show (byW W (y :: l) (byStep W out x y)).length ≤ _
    simp at h1 ⊢; omega
end Sn
end Go.Proofs.Ytcgncmlldjblmaa
