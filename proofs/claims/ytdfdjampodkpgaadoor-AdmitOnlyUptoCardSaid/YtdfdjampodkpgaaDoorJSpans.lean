/- Joined by shake.py: SpansPlain SpansEl SpansCheck SpansPlain2 SpansHas. -/
import Derived.RangeFuncNested
import Derived.Laws.OwnMore
import Derived.BigQuiet
import Derived.Shelf.Abstract
import Derived.Test.YtdfdjampodkpgaaDoorJBase
import Derived.Test.YtdfdjampodkpgaaDoorJEl
set_option linter.unusedSimpArgs false
set_option linter.unusedVariables false

/-! SpansPlain -/
section
/- Sets of days: the one form, and what a sweep over edges makes: plain facts. -/
set_option linter.unusedSimpArgs false
set_option linter.unusedVariables false
namespace Go.Proofs.YtdfdjampodkpgaaDoor
namespace Sn
abbrev Sp := Int × Int
/-- is a day of one of them? -/
def Mem (l : List Sp) (n : Int) : Prop := ∃ s ∈ l, s.1 ≤ n ∧ n < s.2
theorem mem_nil (n : Int) : ¬ Mem [] n := fun ⟨s, h, _⟩ => by simp at h
theorem mem_cons (s : Sp) (l : List Sp) (n : Int) : Mem (s :: l) n ↔ (s.1 ≤ n ∧ n < s.2) ∨ Mem l n := by
  constructor
  · rintro ⟨t, ht, h⟩
    rcases List.mem_cons.1 ht with rfl | ht
    · exact .inl h
    · exact .inr ⟨t, ht, h⟩
  · rintro (h | ⟨t, ht, h⟩)
    · exact ⟨s, by simp, h⟩
    · exact ⟨t, by simp [ht], h⟩
theorem mem_app (l l' : List Sp) (n : Int) : Mem (l ++ l') n ↔ Mem l n ∨ Mem l' n := by
  constructor
  · rintro ⟨t, ht, h⟩
    rcases List.mem_append.1 ht with ht | ht
    · exact .inl ⟨t, ht, h⟩
    · exact .inr ⟨t, ht, h⟩
  · rintro (⟨t, ht, h⟩ | ⟨t, ht, h⟩)
    · exact ⟨t, by simp [ht], h⟩
    · exact ⟨t, by simp [ht], h⟩
/-- the one form: rising, none empty, none that touch -/
def Canon : List Sp → Prop
  | [] => True
  | [s] => s.1 < s.2
  | s :: t :: l => s.1 < s.2 ∧ s.2 < t.1 ∧ Canon (t :: l)
theorem canon_tail {s : Sp} {l : List Sp} (h : Canon (s :: l)) : Canon l := by
  cases l with
  | nil => trivial
  | cons t l => exact h.2.2
theorem canon_head {s : Sp} {l : List Sp} (h : Canon (s :: l)) : s.1 < s.2 := by
  cases l with
  | nil => exact h
  | cons t l => exact h.1
theorem canon_from : ∀ {l : List Sp} {s : Sp}, Canon (s :: l) → ∀ t ∈ l, s.2 < t.1
  | [], _, _, t, ht => by simp at ht
  | u :: l, s, h, t, ht => by
    rcases List.mem_cons.1 ht with rfl | ht
    · exact h.2.1
    · have h1 := canon_from h.2.2 t ht
      have h2 := canon_head h.2.2
      have h3 := h.2.1
      omega
theorem mem_ge {s : Sp} {l : List Sp} (h : Canon (s :: l)) {n : Int} (hn : Mem (s :: l) n) : s.1 ≤ n := by
  rcases (mem_cons _ _ _).1 hn with h1 | ⟨t, ht, h1, h2⟩
  · exact h1.1
  · have := canon_from h t ht
    have := canon_head h
    omega
theorem mem_tail {s : Sp} {l : List Sp} (h : Canon (s :: l)) (n : Int) : Mem l n ↔ (s.2 ≤ n ∧ Mem (s :: l) n) := by
  rw [mem_cons]
  constructor
  · rintro ⟨t, ht, h1, h2⟩
    have := canon_from h t ht
    exact ⟨by omega, .inr ⟨t, ht, h1, h2⟩⟩
  · rintro ⟨h1, h2 | h2⟩
    · omega
    · exact h2
theorem mem_end {s : Sp} {l : List Sp} (h : Canon (s :: l)) : ¬ Mem (s :: l) s.2 := by
  rw [mem_cons]
  rintro (h1 | ⟨t, ht, h1, h2⟩)
  · omega
  · have := canon_from h t ht; omega
theorem mem_start {s : Sp} {l : List Sp} (h : Canon (s :: l)) {n : Int} (h1 : s.1 ≤ n) (h2 : n < s.2) : Mem (s :: l) n := (mem_cons _ _ _).2 (.inl ⟨h1, h2⟩)
/-- a set has one form alone -/
theorem canon_unique : ∀ {l l' : List Sp}, Canon l → Canon l' → (∀ n, Mem l n ↔ Mem l' n) → l = l'
  | [], [], _, _, _ => rfl
  | [], s :: l', _, h', hm => absurd ((hm s.1).2 (mem_start h' (Int.le_refl _) (canon_head h'))) (mem_nil _)
  | s :: l, [], h, _, hm => absurd ((hm s.1).1 (mem_start h (Int.le_refl _) (canon_head h))) (mem_nil _)
  | s :: l, s' :: l', h, h', hm => by
    have hs := canon_head h
    have hs' := canon_head h'
    have e1 : s.1 = s'.1 := by
      have g1 := mem_ge h' ((hm s.1).1 (mem_start h (Int.le_refl _) hs))
      have g2 := mem_ge h ((hm s'.1).2 (mem_start h' (Int.le_refl _) hs'))
      omega
    have e2 : s.2 = s'.2 := by
      rcases Int.lt_or_le s.2 s'.2 with hlt | hle
      · exact absurd ((hm s.2).2 (mem_start h' (by omega) hlt)) (mem_end h)
      · rcases Int.lt_or_le s'.2 s.2 with hlt | hle'
        · exact absurd ((hm s'.2).1 (mem_start h (by omega) hlt)) (mem_end h')
        · omega
    have e : s = s' := Prod.ext e1 e2
    subst e
    rw [canon_unique (canon_tail h) (canon_tail h') (fun n => by rw [mem_tail h, mem_tail h', hm])]
/-- one more behind a form -/
theorem canon_snoc : ∀ {l : List Sp} {t : Sp}, Canon l → t.1 < t.2 → (∀ s ∈ l, s.2 < t.1) → Canon (l ++ [t])
  | [], t, _, h, _ => h
  | [s], t, h1, h, h2 => ⟨h1, h2 s (by simp), h⟩
  | s :: u :: l, t, h1, h, h2 => ⟨h1.1, h1.2.1, canon_snoc (l := u :: l) h1.2.2 h (fun x hx => h2 x (by simp at hx ⊢; exact .inr hx))⟩
/-- where a span begins or ends, and what opens or closes there: of the first set, of the second one -/
structure Ed where
  at_ : Int
  first : Int
  second : Int
/-- what is open at a day -/
def cnt (g : Ed → Int) : List Ed → Int → Int
  | [], _ => 0
  | e :: l, n => (if e.at_ ≤ n then g e else 0) + cnt g l n
theorem cnt_app (g : Ed → Int) : ∀ (l l' : List Ed) (n : Int), cnt g (l ++ l') n = cnt g l n + cnt g l' n
  | [], l', n => by simp [cnt]
  | e :: l, l', n => by simp only [List.cons_append, cnt, cnt_app g l l' n]; omega
theorem cnt_perm (g : Ed → Int) {l l' : List Ed} (h : l.Perm l') (n : Int) : cnt g l n = cnt g l' n := by
  induction h with
  | nil => rfl
  | cons x _ ih => simp only [cnt, ih]
  | swap x y l => simp only [cnt]; omega
  | trans _ _ ih1 ih2 => rw [ih1, ih2]
def tot (g : Ed → Int) : List Ed → Int
  | [] => 0
  | e :: l => g e + tot g l
theorem tot_app (g : Ed → Int) : ∀ (l l' : List Ed), tot g (l ++ l') = tot g l + tot g l'
  | [], l' => by simp [tot]
  | e :: l, l' => by simp only [List.cons_append, tot, tot_app g l l']; omega
theorem cnt_all (g : Ed → Int) : ∀ (l : List Ed) (n : Int), (∀ e ∈ l, e.at_ ≤ n) → cnt g l n = tot g l
  | [], _, _ => rfl
  | e :: l, n, h => by simp only [cnt, tot, if_pos (h e (by simp)), cnt_all g l n (fun x hx => h x (by simp [hx]))]
theorem cnt_none (g : Ed → Int) : ∀ (l : List Ed) (n : Int), (∀ e ∈ l, n < e.at_) → cnt g l n = 0
  | [], _, _ => rfl
  | e :: l, n, h => by
    have := h e (by simp)
    simp only [cnt, if_neg (show ¬ e.at_ ≤ n by omega), cnt_none g l n (fun x hx => h x (by simp [hx]))]; omega
/-- rising -/
def Ris : List Ed → Prop
  | [] => True
  | [_] => True
  | e :: e2 :: l => e.at_ ≤ e2.at_ ∧ Ris (e2 :: l)
theorem ris_ge : ∀ {l : List Ed} {e : Ed}, Ris (e :: l) → ∀ x ∈ l, e.at_ ≤ x.at_
  | [], _, _, x, hx => by simp at hx
  | u :: l, e, h, x, hx => by
    rcases List.mem_cons.1 hx with rfl | hx
    · exact h.1
    · exact Int.le_trans h.1 (ris_ge h.2 x hx)
theorem ris_tail {l : List Ed} {e : Ed} (h : Ris (e :: l)) : Ris l := by
  cases l with
  | nil => trivial
  | cons u l => exact h.2
/-- the last one's end is told -/
def setTo (l : List Sp) (n : Int) : List Sp := match l.getLast? with
  | some s => l.dropLast ++ [(s.1, n)]
  | none => l
theorem setTo_snoc (l : List Sp) (s : Sp) (n : Int) : setTo (l ++ [s]) n = l ++ [(s.1, n)] := by unfold setTo; simp
/-- one edge -/
def sweepStep (want : Int → Int → Bool) (e : Ed) (f s : Int) (on : Bool) (out : List Sp) : List Sp :=
  if want f s && !on then out ++ [(e.at_, 0)] else if !(want f s) && on then setTo out e.at_ else out
/-- is the next edge at the same day? -/
def more (e : Ed) : List Ed → Bool
  | [] => false
  | e2 :: _ => e2.at_ == e.at_
def sweepL (want : Int → Int → Bool) : List Ed → Int → Int → Bool → List Sp → List Sp
  | [], _, _, _, out => out
  | e :: l, f, s, on, out =>
    if more e l = true then sweepL want l (f + e.first) (s + e.second) on out
    else sweepL want l (f + e.first) (s + e.second) (want (f + e.first) (s + e.second)) (sweepStep want e (f + e.first) (s + e.second) on out)
/-- what has been told of the days below a bound -/
def TD (W : Int → Bool) (on : Bool) (out : List Sp) (b : Int) : Prop :=
  match on with
  | true => ∃ C x, out = C ++ [(x, 0)] ∧ Canon C ∧ (∀ s ∈ C, s.2 < x) ∧ x < b ∧ ∀ n, n < b → ((Mem C n ∨ x ≤ n) ↔ W n = true)
  | false => Canon out ∧ (∀ s ∈ out, s.2 < b) ∧ ∀ n, n < b → (Mem out n ↔ W n = true)
/-- what a sweep makes: the one form of the days at which it holds -/
theorem sweep_is (want : Int → Int → Bool) (d : List Ed) (hw : want (tot Ed.first d) (tot Ed.second d) = false) :
    ∀ (l P : List Ed) (on : Bool) (out : List Sp), d = P ++ l → Ris l → (∀ x ∈ P, ∀ y ∈ l, x.at_ ≤ y.at_) →
      (∀ e, l.head? = some e → TD (fun n => want (cnt Ed.first d n) (cnt Ed.second d n)) on out e.at_) →
      (l = [] → on = false ∧ Canon out ∧ ∀ n, Mem out n ↔ want (cnt Ed.first d n) (cnt Ed.second d n) = true) →
      Canon (sweepL want l (tot Ed.first P) (tot Ed.second P) on out) ∧ ∀ n, Mem (sweepL want l (tot Ed.first P) (tot Ed.second P) on out) n ↔ want (cnt Ed.first d n) (cnt Ed.second d n) = true := by
  intro l
  induction l with
  | nil => intro P on out _ _ _ _ h; exact (h rfl).2
  | cons e l ih =>
    intro P on out hd hr hP hI0 _
    have hI := hI0 e rfl
    clear hI0
    have hPe : ∀ g : Ed → Int, tot g P + g e = tot g (P ++ [e]) := fun g => by rw [tot_app]; simp [tot]
    have hd' : d = (P ++ [e]) ++ l := by rw [hd]; simp
    have hP' : ∀ x ∈ P ++ [e], ∀ y ∈ l, x.at_ ≤ y.at_ := fun x hx y hy => by
      rcases List.mem_append.1 hx with hx | hx
      · exact hP x hx y (by simp [hy])
      · simp only [List.mem_singleton] at hx; subst hx; exact ris_ge hr y hy
    unfold sweepL
    by_cases hm : more e l = true
    · rw [if_pos hm, hPe Ed.first, hPe Ed.second]
      cases l with
      | nil => simp [more] at hm
      | cons e2 l =>
        have he : e2.at_ = e.at_ := by simpa [more] using hm
        refine ih (P ++ [e]) on out hd' (ris_tail hr) hP' (fun e' h' => ?_) (fun h => by simp at h)
        simp only [List.head?_cons, Option.some.injEq] at h'
        subst h'
        rw [he]; exact hI
    · rw [if_neg hm, hPe Ed.first, hPe Ed.second]
      have hgt : ∀ y ∈ l, e.at_ < y.at_ := fun y hy => by
        cases l with
        | nil => simp at hy
        | cons e2 l =>
          have h1 : ¬ e2.at_ = e.at_ := by simpa [more] using hm
          have h2 := hr.1
          rcases List.mem_cons.1 hy with rfl | hy
          · omega
          · have := ris_ge hr.2 y hy; omega
      have hval : ∀ (g : Ed → Int) (n : Int), e.at_ ≤ n → (∀ y ∈ l, n < y.at_) → cnt g d n = tot g (P ++ [e]) := fun g n h1 h2 => by
        rw [hd', cnt_app, cnt_none g l n h2, cnt_all g (P ++ [e]) n (fun x hx => by
          rcases List.mem_append.1 hx with hx | hx
          · exact Int.le_trans (hP x hx e (by simp)) h1
          · simp only [List.mem_singleton] at hx; subst hx; exact h1)]
        omega
      obtain ⟨now, hnow⟩ : ∃ b, want (tot Ed.first (P ++ [e])) (tot Ed.second (P ++ [e])) = b := ⟨_, rfl⟩
      have hW : ∀ n, e.at_ ≤ n → (∀ y ∈ l, n < y.at_) → want (cnt Ed.first d n) (cnt Ed.second d n) = now := fun n h1 h2 => by rw [hval _ n h1 h2, hval _ n h1 h2, hnow]
      have hend : l = [] → now = false := fun hl => by
        rw [← hnow, ← hw, hd', hl, List.append_nil]
      rw [hnow]
      refine ih (P ++ [e]) now _ hd' (ris_tail hr) hP' (fun e' h' => ?_) (fun hl => ?_)
      · -- the days up to the next edge
        have hlt : ∀ n, n < e'.at_ → ∀ y ∈ l, n < y.at_ := fun n hn y hy => by
          cases l with
          | nil => simp at hy
          | cons e2 l =>
            simp only [List.head?_cons, Option.some.injEq] at h'
            subst h'
            rcases List.mem_cons.1 hy with rfl | hy
            · exact hn
            · exact Int.lt_of_lt_of_le hn (ris_ge (ris_tail hr) y hy)
        have hee : e.at_ < e'.at_ := hgt e' (by
          cases l with
          | nil => simp at h'
          | cons e2 l => simp only [List.head?_cons, Option.some.injEq] at h'; subst h'; simp)
        unfold sweepStep
        rw [hnow]
        cases on with
        | false =>
          obtain ⟨h1, h2, h3⟩ := hI
          have h3 : ∀ n, n < e.at_ → (Mem out n ↔ want (cnt Ed.first d n) (cnt Ed.second d n) = true) := h3
          cases now with
          | false =>
            refine (show Canon out ∧ (∀ s ∈ out, s.2 < e'.at_) ∧ ∀ n, n < e'.at_ → (Mem out n ↔ want (cnt Ed.first d n) (cnt Ed.second d n) = true) from ⟨h1, fun s hs => by have := h2 s hs; omega, fun n hn => ?_⟩)
            rcases Int.lt_or_le n e.at_ with hl | hl
            · exact h3 n hl
            · rw [hW n hl (hlt n hn)]
              constructor
              · rintro ⟨s, hs, g1, g2⟩; have := h2 s hs; omega
              · intro h; simp at h
          | true =>
            refine (show ∃ C x, out ++ [(e.at_, 0)] = C ++ [(x, 0)] ∧ Canon C ∧ (∀ s ∈ C, s.2 < x) ∧ x < e'.at_ ∧ ∀ n, n < e'.at_ → ((Mem C n ∨ x ≤ n) ↔ want (cnt Ed.first d n) (cnt Ed.second d n) = true) from ⟨out, e.at_, rfl, h1, h2, hee, fun n hn => ?_⟩)
            rcases Int.lt_or_le n e.at_ with hl | hl
            · rw [← h3 n hl]
              constructor
              · rintro (h | h)
                · exact h
                · omega
              · exact .inl
            · rw [hW n hl (hlt n hn)]
              exact ⟨fun _ => rfl, fun _ => .inr hl⟩
        | true =>
          obtain ⟨C, x, rfl, h1, h2, hx, h3⟩ := hI
          have h3 : ∀ n, n < e.at_ → ((Mem C n ∨ x ≤ n) ↔ want (cnt Ed.first d n) (cnt Ed.second d n) = true) := h3
          cases now with
          | false =>
            refine (show Canon (setTo (C ++ [(x, 0)]) e.at_) ∧ (∀ s ∈ setTo (C ++ [(x, 0)]) e.at_, s.2 < e'.at_) ∧ ∀ n, n < e'.at_ → (Mem (setTo (C ++ [(x, 0)]) e.at_) n ↔ want (cnt Ed.first d n) (cnt Ed.second d n) = true) from ?_)
            rw [setTo_snoc]
            refine ⟨canon_snoc h1 hx h2, fun s hs => ?_, fun n hn => ?_⟩
            · rcases List.mem_append.1 hs with hs | hs
              · have := h2 s hs; omega
              · simp only [List.mem_singleton] at hs; subst hs; exact hee
            · rw [mem_app, mem_cons]
              rcases Int.lt_or_le n e.at_ with hl | hl
              · rw [← h3 n hl]
                constructor
                · rintro (h | ⟨h, _⟩ | h)
                  · exact .inl h
                  · exact .inr h
                  · exact absurd h (mem_nil n)
                · rintro (h | h)
                  · exact .inl h
                  · exact .inr (.inl ⟨h, hl⟩)
              · rw [hW n hl (hlt n hn)]
                constructor
                · rintro (⟨s, hs, g1, g2⟩ | ⟨_, h⟩ | h)
                  · have := h2 s hs; omega
                  · exact absurd h (by show ¬ n < e.at_; omega)
                  · exact absurd h (mem_nil n)
                · intro h; simp at h
          | true =>
            refine (show ∃ C' x', C ++ [(x, 0)] = C' ++ [(x', 0)] ∧ Canon C' ∧ (∀ s ∈ C', s.2 < x') ∧ x' < e'.at_ ∧ ∀ n, n < e'.at_ → ((Mem C' n ∨ x' ≤ n) ↔ want (cnt Ed.first d n) (cnt Ed.second d n) = true) from ⟨C, x, rfl, h1, h2, by omega, fun n hn => ?_⟩)
            rcases Int.lt_or_le n e.at_ with hl | hl
            · exact h3 n hl
            · rw [hW n hl (hlt n hn)]
              exact ⟨fun _ => rfl, fun _ => .inr (by omega)⟩
      · -- the end
        have hn0 := hend hl
        subst hl
        unfold sweepStep
        rw [hnow]
        refine ⟨hn0, ?_⟩
        cases on with
        | false =>
          obtain ⟨h1, h2, h3⟩ := hI
          have h3 : ∀ n, n < e.at_ → (Mem out n ↔ want (cnt Ed.first d n) (cnt Ed.second d n) = true) := h3
          rw [hn0]
          refine (show Canon out ∧ ∀ n, Mem out n ↔ want (cnt Ed.first d n) (cnt Ed.second d n) = true from ⟨h1, fun n => ?_⟩)
          rcases Int.lt_or_le n e.at_ with hl | hl
          · exact h3 n hl
          · rw [hW n hl (fun y hy => by simp at hy), hn0]
            constructor
            · rintro ⟨s, hs, g1, g2⟩; have := h2 s hs; omega
            · intro h; simp at h
        | true =>
          obtain ⟨C, x, rfl, h1, h2, hx, h3⟩ := hI
          have h3 : ∀ n, n < e.at_ → ((Mem C n ∨ x ≤ n) ↔ want (cnt Ed.first d n) (cnt Ed.second d n) = true) := h3
          rw [hn0]
          refine (show Canon (setTo (C ++ [(x, 0)]) e.at_) ∧ ∀ n, Mem (setTo (C ++ [(x, 0)]) e.at_) n ↔ want (cnt Ed.first d n) (cnt Ed.second d n) = true from ?_)
          rw [setTo_snoc]
          refine ⟨canon_snoc h1 hx h2, fun n => ?_⟩
          rw [mem_app, mem_cons]
          rcases Int.lt_or_le n e.at_ with hl | hl
          · rw [← h3 n hl]
            constructor
            · rintro (h | ⟨h, _⟩ | h)
              · exact .inl h
              · exact .inr h
              · exact absurd h (mem_nil n)
            · rintro (h | h)
              · exact .inl h
              · exact .inr (.inl ⟨h, hl⟩)
          · rw [hW n hl (fun y hy => by simp at hy), hn0]
            constructor
            · rintro (⟨s, hs, g1, g2⟩ | ⟨_, h⟩ | h)
              · have := h2 s hs; omega
              · exact absurd h (by show ¬ n < e.at_; omega)
              · exact absurd h (mem_nil n)
            · intro h; simp at h
end Sn
end Go.Proofs.YtdfdjampodkpgaaDoor
end

/-! SpansEl -/
section
/- Sets of days: spans and edges as element types; small functions. -/
set_option linter.unusedSimpArgs false
set_option linter.unusedVariables false
namespace Go.Proofs.YtdfdjampodkpgaaDoor
open Go.RowKit
namespace Sn
def eS (s : Sp) : List Value := [.int .i64 s.1, .int .i64 s.2]
abbrev aS (s : Sp) : Value := .agg #[.int .i64 s.1, .int .i64 s.2]
@[reducible] def elS : El Sp where
  k := 2
  enc := eS
  te := 67
  ts := 23
  bytes := 16
  zero := .agg #[.int .i64 0, .int .i64 0]
  k0 := by decide
  zs := rfl
  len := fun _ => rfl
  one := fun x y h => by simp [eS] at h; rcases h with rfl | rfl <;> rfl
  info := by kernel_rfl
  und := Tryd.underlying23
def eE (e : Ed) : List Value := [.int .i64 e.at_, .int .i64 e.first, .int .i64 e.second]
abbrev aE (e : Ed) : Value := .agg #[.int .i64 e.at_, .int .i64 e.first, .int .i64 e.second]
theorem eS_at {w : World} {b off : Nat} {xs : List Sp} (h : ∀ (i : Nat) (h : i < xs.length) (j : Nat) (u : Value), (eS xs[i])[j]? = some u → w.cell? ⟨b, off + (i * 2 + j), none⟩ = some u)
    (i : Nat) (hi : i < xs.length) : w.cell? ⟨b, off + i * 2, none⟩ = some (.int .i64 xs[i].1) ∧ w.cell? ⟨b, off + i * 2 + 1, none⟩ = some (.int .i64 xs[i].2) := ⟨h i hi 0 _ rfl, h i hi 1 _ rfl⟩
theorem eE_at {w : World} {b off : Nat} {xs : List Ed} (h : ∀ (i : Nat) (h : i < xs.length) (j : Nat) (u : Value), (eE xs[i])[j]? = some u → w.cell? ⟨b, off + (i * 3 + j), none⟩ = some u)
    (i : Nat) (hi : i < xs.length) : w.cell? ⟨b, off + i * 3, none⟩ = some (.int .i64 xs[i].at_) ∧ w.cell? ⟨b, off + i * 3 + 1, none⟩ = some (.int .i64 xs[i].first) ∧ w.cell? ⟨b, off + i * 3 + 2, none⟩ = some (.int .i64 xs[i].second) := ⟨h i hi 0 _ rfl, h i hi 1 _ rfl, h i hi 2 _ rfl⟩
abbrev BoolQ (b : Bool) (w : World) (e : Ending) (w' : World) : Prop := e = .returned (.bool b) ∧ Below w.heap.size w w'
abbrev IntQ (n : Int) (w : World) (e : Ending) (w' : World) : Prop := e = .returned (.int .i64 n) ∧ Below w.heap.size w w'
/-- numbers that there are -/
def isN (s : Sp) : Prop := -1099511627776 ≤ s.1 ∧ -1099511627776 ≤ s.2 ∧ s.1 ≤ 1099511627776 ∧ s.2 ≤ 1099511627776
instance (s : Sp) : Decidable (isN s) := by unfold isN; exact inferInstance
set_option maxHeartbeats 1000000 in
theorem numbers_any (s : Sp) (w : World) : Calls Tryd.prog 76 #[aS s] w (BoolQ (decide (isN s)) w) := by
  obtain ⟨a, b⟩ := s
  have hb := (br w).alloc (Nat.le_refl _) (.cells #[.int .i64 a, .int .i64 b] 67)
  obtain ⟨m, hm⟩ : ∃ m, min a b = m := ⟨_, rfl⟩
  obtain ⟨x, hx⟩ : ∃ x, max a b = x := ⟨_, rfl⟩
  have hd : decide (isN (a, b)) = (decide (-1099511627776 ≤ m) && decide (x ≤ 1099511627776)) := by
    rw [← hm, ← hx, ← Bool.decide_and]
    apply decide_eq_decide.2
    show (_ ∧ _ ∧ _ ∧ _) ↔ _
    simp only
    omega
  rw [hd]
  clear hd
  have hc : (a < b ∧ m = a ∧ x = b) ∨ (b < a ∧ m = b ∧ x = a) ∨ (a = b ∧ m = a ∧ x = a) := by omega
  clear hm hx
  have go : ∀ (r : Bool), r = (decide (-1099511627776 ≤ m) && decide (x ≤ 1099511627776)) → ((-1099511627776 ≤ m ∧ x ≤ 1099511627776 ∧ r = true) ∨ (-1099511627776 ≤ m ∧ decide (x ≤ 1099511627776) = false ∧ r = false) ∨ (¬ -1099511627776 ≤ m ∧ r = false)) := fun r hr => by
    by_cases h1 : (-1099511627776 : Int) ≤ m <;> by_cases h2 : x ≤ (1099511627776 : Int) <;> simp [h1, h2] at hr <;> simp [h1, h2, hr]
  obtain ⟨r, hr⟩ : ∃ r, (decide (-1099511627776 ≤ m) && decide (x ≤ 1099511627776)) = r := ⟨_, rfl⟩
  have hcs := go r hr.symm
  rw [hr]
  clear go hr
  rcases hc with ⟨h, e1, e2⟩ | ⟨h, e1, e2⟩ | ⟨rfl, e1, e2⟩
  · subst e1 e2
    rcases hcs with ⟨g1, g2, rfl⟩ | ⟨g1, g2, rfl⟩ | ⟨g1, rfl⟩
    all_goals
      go_enter Tryd.func76, Tryd.ntmps76
      go_wp2
      go_ret
      exact ⟨rfl, hb⟩
  · subst e1 e2
    rcases hcs with ⟨g1, g2, rfl⟩ | ⟨g1, g2, rfl⟩ | ⟨g1, rfl⟩
    all_goals
      go_enter Tryd.func76, Tryd.ntmps76
      go_wp2
      go_ret
      exact ⟨rfl, hb⟩
  · subst e1 e2
    rcases hcs with ⟨g1, g2, rfl⟩ | ⟨g1, g2, rfl⟩ | ⟨g1, rfl⟩
    all_goals
      go_enter Tryd.func76, Tryd.ntmps76
      go_wp2
      go_ret
      exact ⟨rfl, hb⟩
end Sn
end Go.Proofs.YtdfdjampodkpgaaDoor
end

/-! SpansCheck -/
section
/- Sets of days: are they right? And their edges. -/
set_option linter.unusedSimpArgs false
set_option linter.unusedVariables false
namespace Go.Proofs.YtdfdjampodkpgaaDoor
open Go.RowKit
namespace Sn
def chkL : Option Int → List Sp → Int
  | _, [] => 0
  | p, s :: l => if ¬ isN s then 3 else if s.2 ≤ s.1 then 1 else if (match p with | some x => decide (s.1 ≤ x) | none => false) = true then 4 else chkL (some s.2) l
def chkS (l : List Sp) : Int := if 64 < l.length then 2 else chkL none l
/-- fits behind an end -/
def Behind (p : Option Int) (l : List Sp) : Prop := ∀ x, p = some x → ∀ s ∈ l.head?, x < s.1
theorem chkL_ok : ∀ (l : List Sp) (p : Option Int), chkL p l = 0 ↔ (∀ s ∈ l, isN s) ∧ Canon l ∧ Behind p l
  | [], p => by simp [chkL, Canon, Behind]
  | s :: l, p => by
    unfold chkL
    by_cases h1 : isN s
    · rw [if_neg (fun h => h h1)]
      by_cases h2 : s.2 ≤ s.1
      · rw [if_pos h2]
        exact ⟨fun h => by omega, fun h => by have := canon_head h.2.1; omega⟩
      rw [if_neg h2]
      by_cases h3 : (match p with | some x => decide (s.1 ≤ x) | none => false) = true
      · rw [if_pos h3]
        refine ⟨fun h => by omega, fun h => ?_⟩
        cases p with
        | none => simp at h3
        | some x =>
          have := h.2.2 x rfl s (by simp)
          simp at h3; omega
      rw [if_neg h3, chkL_ok l (some s.2)]
      have hp : Behind p (s :: l) := fun x hx t ht => by
        subst hx
        simp at ht h3; subst ht; omega
      constructor
      · rintro ⟨g1, g2, g3⟩
        refine ⟨fun t ht => ?_, ?_, hp⟩
        · rcases List.mem_cons.1 ht with rfl | ht
          · exact h1
          · exact g1 t ht
        · cases l with
          | nil => show s.1 < s.2; omega
          | cons t l => exact ⟨by omega, g3 s.2 rfl t (by simp), g2⟩
      · rintro ⟨g1, g2, _⟩
        refine ⟨fun t ht => g1 t (by simp [ht]), canon_tail g2, fun x hx t ht => ?_⟩
        injection hx with hx
        subst hx
        exact canon_from g2 t (List.mem_of_mem_head? ht)
    · rw [if_pos h1]
      exact ⟨fun h => by omega, fun h => absurd (h.1 s (by simp)) h1⟩
theorem chkS_ok (l : List Sp) : chkS l = 0 ↔ l.length ≤ 64 ∧ (∀ s ∈ l, isN s) ∧ Canon l := by
  unfold chkS
  by_cases h : 64 < l.length
  · rw [if_pos h]; exact ⟨fun h => by omega, fun h' => by omega⟩
  · rw [if_neg h, chkL_ok]
    exact ⟨fun g => ⟨by omega, g.1, g.2.1⟩, fun g => ⟨g.2.1, g.2.2, fun x hx => by cases hx⟩⟩
/-- where the last one ends -/
def prev (l : List Sp) (k : Nat) : Option Int := if k = 0 then none else (l[k - 1]?).map (·.2)
theorem chkL_at (l : List Sp) (k : Nat) (h : k < l.length) : chkL (prev l k) (l.drop k) = if ¬ isN l[k] then 3 else if l[k].2 ≤ l[k].1 then 1 else if (match prev l k with | some x => decide (l[k].1 ≤ x) | none => false) = true then 4 else chkL (prev l (k + 1)) (l.drop (k + 1)) := by
  rw [List.drop_eq_getElem_cons h]
  have : prev l (k + 1) = some l[k].2 := by unfold prev; simp [h]
  rw [this]; rfl
set_option maxRecDepth 100000 in
set_option maxHeartbeats 4000000 in
theorem check_any (v : Value) (l : List Sp) (w : World) (h : RdE elS w v l) : Calls Tryd.prog 53 #[v] w (IntQ (chkS l) w) := by
  have hle := h.len_le
  obtain ⟨a, cap, rfl, h1, h2, h3⟩ := h
  have H3 := Lib.hid h3; clear h3
  by_cases c0 : 64 < l.length
  · have hF : chkS l = 2 := by unfold chkS; rw [if_pos c0]
    have HF := Lib.hid hF
    have hq : (64 : Int) < (l.length : Int) := by omega
    clear hF c0 H3
    go_enter Tryd.func53, Tryd.ntmps53
    go_wp2
    go_ret
    exact ⟨by rw [HF.out]; rfl, br _⟩
  have hq : ¬ (64 : Int) < (l.length : Int) := by omega
  have hF : chkS l = chkL (prev l 0) (l.drop 0) := by unfold chkS; rw [if_neg c0]; rfl
  have HF := Lib.hid hF
  clear hF
  go_enter Tryd.func53, Tryd.ntmps53
  go_wp2
  go_loopw [10] (fun i wr => ∃ k : Nat, k ≤ l.length ∧ i = .int .i64 k ∧ chkS l = chkL (prev l k) (l.drop k) ∧ Below w.heap.size w wr) (fun i _ => l.length - (intOf i).toNat)
  case atStart => exact ⟨0, Nat.zero_le _, rfl, HF.out, br _⟩
  case round =>
    obtain ⟨k, hk, rfl, hch, hbw⟩ := hrel
    have HBW := Lib.hid hbw
    by_cases hlt : k < l.length
    · obtain ⟨g, off, rfl, hbl, hc⟩ := H3.out (by omega)
      obtain ⟨q0, q1⟩ := eS_at hc k hlt
      have d0 := (hbw.cell (p := ⟨g, off + k * 2, none⟩) hbl).trans q0
      have d1 := (hbw.cell (p := ⟨g, off + k * 2 + 1, none⟩) hbl).trans q1
      have i1 : (k : Int) < (l.length : Int) := by omega
      have i0 : (0 : Int) ≤ (k : Int) := by omega
      rw [chkL_at l k hlt] at hch
      have HNB := Lib.hid (numbers_any l[k])
      have HBA := Lib.hid (hbw.alloc (by have := hbw.size; exact this) (.cells #[.int .i64 l[k].1, .int .i64 l[k].2] 67))
      have hbx := Box.new wr 67 [.int .i64 l[k].1, .int .i64 l[k].2]
      have HBX := Lib.hid hbx
      have hpr : k = 0 ∨ ∃ h' : k - 1 < l.length, 0 < k ∧ prev l k = some l[k - 1].2 := by
        by_cases h0 : k = 0
        · exact .inl h0
        · exact .inr ⟨by omega, by omega, by unfold prev; rw [if_neg h0, List.getElem?_eq_getElem (by omega)]; rfl⟩
      have HPR := Lib.hid hpr
      have HQ := Lib.hid (fun (h' : k - 1 < l.length) => (eS_at hc (k - 1) h').2)
      clear hc q0 q1 hbw hbx hpr H3
      obtain ⟨s, hs⟩ : ∃ s, l[k] = s := ⟨_, rfl⟩
      rw [hs] at d0 d1 hch HNB HBA HBX
      have HS := Lib.hid hs
      clear hs
      obtain ⟨p, q⟩ := s
      simp only at d0 d1 hch HNB HBA HBX
      by_cases c1 : isN (p, q)
      · rw [if_neg (fun h => h c1)] at hch
        have hdc : decide (isN (p, q)) = true := decide_eq_true c1
        rw [hdc] at HNB
        clear hdc c1
        by_cases c2 : q ≤ p
        · rw [if_pos c2] at hch
          have HCH := Lib.hid hch
          clear hch
          go_wp2_with fail
          refine (HNB.out _).mono ?_
          rintro en w2 ⟨rfl, b2⟩
          have d0 := (HBX.out.next b2).cell 0; have d1 := (HBX.out.next b2).cell 1
          simp only [List.getElem?_cons_zero, List.getElem?_cons_succ] at d0 d1
          have HB2 := Lib.hid (bt HBA.out b2)
          clear b2
          go_wp2
          go_ret
          exact ⟨by rw [HCH.out]; rfl, HB2.out⟩
        rw [if_neg c2] at hch
        rcases HPR.out with rfl | ⟨hk1, hk0, hpv⟩
        · have hch2 : chkS l = chkL (prev l 1) (l.drop 1) := by
            rw [hch, if_neg (by unfold prev; simp)]
          have HCH := Lib.hid hch2
          clear hch hch2 HPR
          simp only [Nat.zero_mul, Nat.add_zero, Int.ofNat_zero] at d0 d1 i0 i1
          go_wp2_with fail
          refine (HNB.out _).mono ?_
          rintro en w2 ⟨rfl, b2⟩
          have d0 := (HBX.out.next b2).cell 0; have d1 := (HBX.out.next b2).cell 1
          simp only [List.getElem?_cons_zero, List.getElem?_cons_succ] at d0 d1
          have HB2 := Lib.hid (bt HBA.out b2)
          clear b2
          go_wp2_with fail
          go_quiet (fail)
          go_wp2
          go_roundw
          case rel => exact ⟨1, by omega, by first | rfl | go_num, HCH.out, bn HB2.out _⟩
          case measure => simp [intOf]; omega
        · obtain ⟨j, rfl⟩ : ∃ j, k = j + 1 := ⟨k - 1, by omega⟩
          simp only [Nat.add_sub_cancel] at hk1 hpv
          have q1' := HQ.out hk1
          simp only [Nat.add_sub_cancel] at q1'
          rw [hpv] at hch
          simp only at hch
          have ij0 : (0 : Int) ≤ (j : Int) := by omega
          have ij1 : (j : Int) < (l.length : Int) := by omega
          have ijp : (0 : Int) < (j : Int) + 1 := by omega
          generalize l[j].2 = x at *
          have HQ1 := Lib.hid q1'
          clear HPR hpv HQ q1'
          by_cases c3 : p ≤ x
          · rw [if_pos (decide_eq_true c3)] at hch
            have HCH := Lib.hid hch
            clear hch
            go_wp2_with fail
            refine (HNB.out _).mono ?_
            rintro en w2 ⟨rfl, b2⟩
            have d0 := (HBX.out.next b2).cell 0; have d1 := (HBX.out.next b2).cell 1
            simp only [List.getElem?_cons_zero, List.getElem?_cons_succ] at d0 d1
            have HB2 := Lib.hid (bt HBA.out b2)
            have e0 := (HB2.out.cell (p := ⟨g, off + j * 2 + 1, none⟩) hbl).trans HQ1.out
            clear b2
            go_wp2_with fail
            go_quiet (fail)
            go_wp2
            go_ret
            exact ⟨by rw [HCH.out]; rfl, bn HB2.out _⟩
          · rw [if_neg (by simp; omega)] at hch
            have HCH := Lib.hid hch
            clear hch
            go_wp2_with fail
            refine (HNB.out _).mono ?_
            rintro en w2 ⟨rfl, b2⟩
            have d0 := (HBX.out.next b2).cell 0; have d1 := (HBX.out.next b2).cell 1
            simp only [List.getElem?_cons_zero, List.getElem?_cons_succ] at d0 d1
            have HB2 := Lib.hid (bt HBA.out b2)
            have e0 := (HB2.out.cell (p := ⟨g, off + j * 2 + 1, none⟩) hbl).trans HQ1.out
            clear b2
            go_wp2_with fail
            go_quiet (fail)
            go_wp2
            go_roundw
            case rel => exact ⟨j + 1 + 1, by omega, by go_num, HCH.out, bn HB2.out _⟩
            case measure => simp [intOf]; omega
      · rw [if_pos c1] at hch
        have hdc : decide (isN (p, q)) = false := decide_eq_false c1
        rw [hdc] at HNB
        have HCH := Lib.hid hch
        clear hch hdc c1
        go_wp2_with fail
        refine (HNB.out _).mono ?_
        rintro en w2 ⟨rfl, b2⟩
        have HB2 := Lib.hid (bt HBA.out b2)
        clear b2
        go_wp2
        go_ret
        exact ⟨by rw [HCH.out]; rfl, HB2.out⟩
    · have hch2 : chkS l = 0 := by rw [hch, List.drop_eq_nil_of_le (by omega)]; rfl
      have HCH := Lib.hid hch2
      clear hch hch2 H3
      go_wp2
      go_ret
      exact ⟨by rw [HCH.out]; rfl, hbw⟩
/-- a span's two edges -/
def edgesOf (f s : Int) (l : List Sp) : List Ed := l.flatMap (fun p => [⟨p.1, f, s⟩, ⟨p.2, -f, -s⟩])
end Sn
end Go.Proofs.YtdfdjampodkpgaaDoor
end

/-! SpansPlain2 -/
section
/- Sets of days, plain law: what is open at a day, and the document's own making of a set from its ends. -/
set_option linter.unusedSimpArgs false
set_option linter.unusedVariables false
namespace Go.Proofs.YtdfdjampodkpgaaDoor
open Go.RowKit
namespace Sn
/-- is a day of these spans? -/
def has (l : List Sp) (n : Int) : Bool := l.any (fun s => decide (s.1 ≤ n) && decide (n < s.2))
theorem has_iff (l : List Sp) (n : Int) : has l n = true ↔ Mem l n := by
  unfold has Mem
  rw [List.any_eq_true]
  constructor
  · rintro ⟨s, h1, h2⟩; simp at h2; exact ⟨s, h1, h2⟩
  · rintro ⟨s, h1, h2, h3⟩; exact ⟨s, h1, by simp [h2, h3]⟩
/-- how many are open at a day -/
def opn : List Sp → Int → Int
  | [], _ => 0
  | s :: l, n => (if s.1 ≤ n ∧ n < s.2 then 1 else 0) + opn l n
theorem opn_ge : ∀ (l : List Sp) (n : Int), 0 ≤ opn l n
  | [], _ => Int.le_refl _
  | s :: l, n => by have := opn_ge l n; unfold opn; split <;> omega
theorem opn_pos : ∀ (l : List Sp) (n : Int), 0 < opn l n ↔ has l n = true
  | [], n => by simp [opn, has]
  | s :: l, n => by
    have h1 := opn_ge l n
    have h2 := opn_pos l n
    have h3 : has (s :: l) n = (decide (s.1 ≤ n) && decide (n < s.2) || has l n) := rfl
    rw [h3, opn]
    by_cases c : s.1 ≤ n ∧ n < s.2
    · rw [if_pos c]; simp [c.1, c.2]; omega
    · rw [if_neg c]
      have hc : (decide (s.1 ≤ n) && decide (n < s.2)) = false := by
        rw [← Bool.decide_and]; exact decide_eq_false c
      rw [hc, Bool.false_or, ← h2]; omega
theorem edges_cons (f s : Int) (p : Sp) (l : List Sp) : edgesOf f s (p :: l) = ⟨p.1, f, s⟩ :: ⟨p.2, -f, -s⟩ :: edgesOf f s l := rfl
theorem cnt_first (f s n : Int) : ∀ (l : List Sp), (∀ p ∈ l, p.1 ≤ p.2) → cnt Ed.first (edgesOf f s l) n = f * opn l n
  | [], _ => by simp [edgesOf, cnt, opn]
  | p :: l, h => by
    have h1 := h p (by simp)
    rw [edges_cons, cnt, cnt, cnt_first f s n l (fun q hq => h q (by simp [hq])), opn, Int.mul_add]
    simp only
    by_cases c : p.1 ≤ n <;> by_cases c2 : p.2 ≤ n
    · rw [if_pos c, if_pos c2, if_neg (by omega)]; omega
    · rw [if_pos c, if_neg c2, if_pos (by omega)]; omega
    · omega
    · rw [if_neg c, if_neg c2, if_neg (by omega)]; omega
theorem cnt_second (f s n : Int) : ∀ (l : List Sp), (∀ p ∈ l, p.1 ≤ p.2) → cnt Ed.second (edgesOf f s l) n = s * opn l n
  | [], _ => by simp [edgesOf, cnt, opn]
  | p :: l, h => by
    have h1 := h p (by simp)
    rw [edges_cons, cnt, cnt, cnt_second f s n l (fun q hq => h q (by simp [hq])), opn, Int.mul_add]
    simp only
    by_cases c : p.1 ≤ n <;> by_cases c2 : p.2 ≤ n
    · rw [if_pos c, if_pos c2, if_neg (by omega)]; omega
    · rw [if_pos c, if_neg c2, if_pos (by omega)]; omega
    · omega
    · rw [if_neg c, if_neg c2, if_neg (by omega)]; omega
theorem tot_edges (f s : Int) : ∀ (l : List Sp), tot Ed.first (edgesOf f s l) = 0 ∧ tot Ed.second (edgesOf f s l) = 0
  | [] => ⟨rfl, rfl⟩
  | p :: l => by
    have := tot_edges f s l
    rw [edges_cons]; simp only [tot]; omega
theorem edges_len (f s : Int) : ∀ (l : List Sp), (edgesOf f s l).length = 2 * l.length
  | [] => rfl
  | p :: l => by rw [edges_cons, List.length_cons, List.length_cons, edges_len f s l, List.length_cons]; omega
theorem tot_perm (g : Ed → Int) {l l' : List Ed} (h : l.Perm l') : tot g l = tot g l' := by
  induction h with
  | nil => rfl
  | cons x _ ih => simp only [tot, ih]
  | swap x y l => simp only [tot]; omega
  | trans _ _ ih1 ih2 => rw [ih1, ih2]
theorem sweepL_len (want : Int → Int → Bool) : ∀ (l : List Ed) (f s : Int) (on : Bool) (out : List Sp), (sweepL want l f s on out).length ≤ out.length + l.length
  | [], _, _, _, _ => by simp [sweepL]
  | e :: l, f, s, on, out => by
    unfold sweepL
    split
    · have := sweepL_len want l (f + e.first) (s + e.second) on out
      simp; omega
    · have h1 := sweepL_len want l (f + e.first) (s + e.second) (want (f + e.first) (s + e.second)) (sweepStep want e (f + e.first) (s + e.second) on out)
      have h2 : (sweepStep want e (f + e.first) (s + e.second) on out).length ≤ out.length + 1 := by
        unfold sweepStep
        split
        · simp
        · split
          · unfold setTo
            split
            · simp; try omega
            · omega
          · omega
      simp; omega
/-- the sweep of two sets: the one form of the days that are wanted -/
theorem sweep_two (want : Int → Int → Bool) (a b : List Sp) (ys : List Ed) (ha : ∀ p ∈ a, p.1 ≤ p.2) (hb : ∀ p ∈ b, p.1 ≤ p.2) (hp : ys.Perm (edgesOf 1 0 a ++ edgesOf 0 1 b)) (hr : Ris ys) (h0 : want 0 0 = false) :
    Canon (sweepL want ys 0 0 false []) ∧ ∀ n, Mem (sweepL want ys 0 0 false []) n ↔ want (opn a n) (opn b n) = true := by
  have t1 : tot Ed.first ys = 0 := by rw [tot_perm _ hp, tot_app, (tot_edges 1 0 a).1, (tot_edges 0 1 b).1]; rfl
  have t2 : tot Ed.second ys = 0 := by rw [tot_perm _ hp, tot_app, (tot_edges 1 0 a).2, (tot_edges 0 1 b).2]; rfl
  have c1 : ∀ n, cnt Ed.first ys n = opn a n := fun n => by rw [cnt_perm _ hp, cnt_app, cnt_first _ _ _ _ ha, cnt_first _ _ _ _ hb]; omega
  have c2 : ∀ n, cnt Ed.second ys n = opn b n := fun n => by rw [cnt_perm _ hp, cnt_app, cnt_second _ _ _ _ ha, cnt_second _ _ _ _ hb]; omega
  have := sweep_is want ys (by rw [t1, t2]; exact h0) ys [] false [] rfl hr (fun x hx => by simp at hx) (fun e he => ?_) (fun hl => ?_)
  · obtain ⟨g1, g2⟩ := this
    refine ⟨g1, fun n => ?_⟩
    have := g2 n
    rw [c1, c2] at this
    exact this
  · show Canon [] ∧ (∀ s ∈ ([] : List Sp), s.2 < e.at_) ∧ ∀ n, n < e.at_ → (Mem [] n ↔ want (cnt Ed.first ys n) (cnt Ed.second ys n) = true)
    refine ⟨trivial, by simp, fun n hn => ?_⟩
    have hall : ∀ x ∈ ys, n < x.at_ := fun x hx => by
      cases ys with
      | nil => simp at hx
      | cons y ys =>
        simp only [List.head?_cons, Option.some.injEq] at he
        subst he
        rcases List.mem_cons.1 hx with rfl | hx
        · exact hn
        · have := ris_ge hr x hx; omega
    rw [cnt_none _ _ _ hall, cnt_none _ _ _ hall, h0]
    simp [mem_nil]
  · subst hl
    refine ⟨rfl, trivial, fun n => ?_⟩
    simp [cnt, h0, mem_nil]
/-- which of both: 0: of either, 1: of both, 2: of the first one alone -/
def opB (op : Int) (x y : Bool) : Bool := (op == 0 && (x || y)) || (op == 1 && (x && y)) || (op == 2 && (x && !y))
def wnt (op : Int) (m n : Int) : Bool := if op = 0 then decide (0 < m + n) else if op = 1 then decide (0 < m) && decide (0 < n) else decide (0 < m) && decide (n = 0)
theorem wnt_is (op : Int) (h : op = 0 ∨ op = 1 ∨ op = 2) (a b : List Sp) (n : Int) : wnt op (opn a n) (opn b n) = opB op (has a n) (has b n) := by
  have h1 := opn_ge a n; have h2 := opn_ge b n
  have h3 := opn_pos a n; have h4 := opn_pos b n
  unfold wnt opB
  generalize opn a n = x at *; generalize opn b n = y at *
  generalize has a n = p at *; generalize has b n = q at *
  rcases h with rfl | rfl | rfl <;> cases p <;> cases q <;> simp at h3 h4 ⊢ <;> omega
/-- a rising list with a number, once -/
def withL (n : Int) : Bool → List Int → List Int
  | d, [] => if d then [] else [n]
  | d, x :: l => (if (!d && decide (n ≤ x)) = true then [n] else []) ++ (if x = n then [] else [x]) ++ withL n (d || decide (n ≤ x)) l
abbrev Up (l : List Int) : Prop := l.Pairwise (· < ·)
theorem with_true (n : Int) : ∀ l : List Int, withL n true l = l.filter (fun x => !decide (x = n))
  | [] => rfl
  | x :: l => by
    unfold withL
    rw [Bool.true_or, with_true n l]
    by_cases c : x = n <;> simp [c]
theorem with_mem (n : Int) : ∀ (l : List Int) (y : Int), y ∈ withL n false l ↔ y = n ∨ y ∈ l
  | [], y => by simp [withL]
  | x :: l, y => by
    unfold withL
    by_cases c : n ≤ x
    · have hd : decide (n ≤ x) = true := decide_eq_true c
      rw [hd, Bool.false_or, with_true]
      simp only [Bool.not_false, Bool.and_self, if_true, List.mem_append, List.mem_filter, List.mem_cons]
      by_cases c2 : x = n
      · subst c2
        by_cases c3 : y = x <;> simp [c3]
      · by_cases c3 : y = n
        · simp [c3, c2]
        · simp [c3, c2]
    · have hd : decide (n ≤ x) = false := decide_eq_false c
      rw [hd, Bool.false_or, if_neg (by simp), if_neg (show ¬ x = n by omega)]
      simp only [List.nil_append, List.mem_append, List.mem_cons, with_mem n l y, List.not_mem_nil, or_false]
      constructor
      · rintro (h | h | h)
        · exact .inr (.inl h)
        · exact .inl h
        · exact .inr (.inr h)
      · rintro (h | h | h)
        · exact .inr (.inl h)
        · exact .inl h
        · exact .inr (.inr h)
theorem with_up (n : Int) : ∀ (l : List Int), Up l → Up (withL n false l)
  | [], _ => by simp [withL]
  | x :: l, h => by
    have h1 := List.pairwise_cons.1 h
    unfold withL
    by_cases c : n ≤ x
    · have hd : decide (n ≤ x) = true := decide_eq_true c
      rw [hd, Bool.false_or, with_true]
      simp only [Bool.not_false, Bool.and_self, if_true]
      have hf : Up (l.filter (fun x => !decide (x = n))) := h1.2.filter _
      by_cases c2 : x = n
      · rw [if_pos c2, List.append_nil, List.singleton_append]
        exact List.pairwise_cons.2 ⟨fun y hy => by have := h1.1 y (List.mem_filter.1 hy).1; omega, hf⟩
      · rw [if_neg c2]
        refine List.pairwise_cons.2 ⟨fun y hy => ?_, List.pairwise_cons.2 ⟨fun y hy => h1.1 y (List.mem_filter.1 hy).1, hf⟩⟩
        rcases List.mem_cons.1 hy with rfl | hy
        · omega
        · have := h1.1 y (List.mem_filter.1 hy).1; omega
    · have hd : decide (n ≤ x) = false := decide_eq_false c
      rw [hd, Bool.false_or, if_neg (by simp), if_neg (show ¬ x = n by omega), List.nil_append, List.singleton_append]
      refine List.pairwise_cons.2 ⟨fun y hy => ?_, with_up n l h1.2⟩
      rcases (with_mem n l y).1 hy with rfl | hy
      · omega
      · exact h1.1 y hy
theorem with_len (n : Int) : ∀ (l : List Int) (d : Bool), (withL n d l).length ≤ l.length + 1
  | [], d => by cases d <;> simp [withL]
  | x :: l, d => by
    have h := with_len n l (d || decide (n ≤ x))
    cases d with
    | true =>
      rw [with_true]
      have := List.length_filter_le (fun y => !decide (y = n)) (x :: l)
      omega
    | false =>
      unfold withL
      by_cases c : n ≤ x
      · have hd : decide (n ≤ x) = true := decide_eq_true c
        rw [hd, Bool.false_or, with_true]
        have := List.length_filter_le (fun y => !decide (y = n)) l
        simp only [List.length_append, List.length_cons]
        split <;> split <;> simp <;> omega
      · have hd : decide (n ≤ x) = false := decide_eq_false c
        rw [hd] at h ⊢
        simp only [List.length_append, List.length_cons]
        split <;> split <;> simp at * <;> omega
/-- ends of spans, rising, each once -/
def endsL (l : List Sp) : List Int := l.foldl (fun out s => withL s.2 false (withL s.1 false out)) []
theorem endsL_snoc (l : List Sp) (s : Sp) : endsL (l ++ [s]) = withL s.2 false (withL s.1 false (endsL l)) := by unfold endsL; rw [List.foldl_append]; rfl
theorem ends_up (l : List Sp) : Up (endsL l) := by
  suffices h : ∀ (l : List Sp) (o : List Int), Up o → Up (l.foldl (fun out s => withL s.2 false (withL s.1 false out)) o) from h l [] List.Pairwise.nil
  intro l
  induction l with
  | nil => intro o h; exact h
  | cons s l ih => intro o h; exact ih _ (with_up _ _ (with_up _ _ h))
theorem ends_mem (l : List Sp) (y : Int) : y ∈ endsL l ↔ ∃ s ∈ l, y = s.1 ∨ y = s.2 := by
  suffices h : ∀ (l : List Sp) (o : List Int), y ∈ l.foldl (fun out s => withL s.2 false (withL s.1 false out)) o ↔ y ∈ o ∨ ∃ s ∈ l, y = s.1 ∨ y = s.2 by
    have := h l []; simp at this; unfold endsL; rw [this]; simp
  intro l
  induction l with
  | nil => intro o; simp
  | cons s l ih =>
    intro o
    rw [List.foldl_cons, ih, with_mem, with_mem]
    constructor
    · rintro ((h | h | h) | ⟨t, h1, h2⟩)
      · exact .inr ⟨s, by simp, .inr h⟩
      · exact .inr ⟨s, by simp, .inl h⟩
      · exact .inl h
      · exact .inr ⟨t, by simp [h1], h2⟩
    · rintro (h | ⟨t, h1, h2⟩)
      · exact .inl (.inr (.inr h))
      · rcases List.mem_cons.1 h1 with rfl | h1
        · rcases h2 with h2 | h2
          · exact .inl (.inr (.inl h2))
          · exact .inl (.inl h2)
        · exact .inr ⟨t, h1, h2⟩
theorem ends_len (l : List Sp) : (endsL l).length ≤ 2 * l.length := by
  suffices h : ∀ (l : List Sp) (o : List Int), (l.foldl (fun out s => withL s.2 false (withL s.1 false out)) o).length ≤ o.length + 2 * l.length by
    have := h l []; simp at this; exact this
  intro l
  induction l with
  | nil => intro o; simp
  | cons s l ih =>
    intro o
    rw [List.foldl_cons]
    have h1 := ih (withL s.2 false (withL s.1 false o))
    have h2 := with_len s.2 (withL s.1 false o) false
    have h3 := with_len s.1 o false
    simp; omega
/-- the last one may end later -/
theorem canon_stretch : ∀ {C : List Sp} {p x y : Int}, Canon (C ++ [(p, x)]) → x ≤ y → Canon (C ++ [(p, y)])
  | [], p, x, y, h, hxy => by have : p < x := h; show p < y; omega
  | [s], p, x, y, h, hxy => by
    obtain ⟨h1, h2, h3⟩ : s.1 < s.2 ∧ s.2 < p ∧ p < x := h
    exact ⟨h1, h2, by show p < y; omega⟩
  | s :: t :: C, p, x, y, h, hxy => ⟨h.1, h.2.1, canon_stretch (C := t :: C) h.2.2 hxy⟩
theorem canon_last : ∀ {C : List Sp} {p x : Int}, Canon (C ++ [(p, x)]) → p < x
  | [], p, x, h => h
  | s :: C, p, x, h => canon_last (C := C) (canon_tail h)
/-- where the last one ends below a day, all do -/
theorem canon_below : ∀ {l : List Sp} {x : Int}, Canon l → (∀ s ∈ l, s.2 ≤ x) → (∀ t, l.getLast? = some t → t.2 ≠ x) → ∀ s ∈ l, s.2 < x
  | [], x, _, _, _, s, hs => by simp at hs
  | [t], x, h, h1, h2, s, hs => by
    simp at hs; subst hs
    have := h1 s (by simp); have := h2 s rfl; omega
  | t :: u :: l, x, h, h1, h2, s, hs => by
    have ih := canon_below (l := u :: l) h.2.2 (fun s hs => h1 s (by simp at hs ⊢; exact .inr hs)) (fun r hr => h2 r (by rw [List.getLast?_cons_cons]; exact hr))
    rcases List.mem_cons.1 hs with rfl | hs
    · have h3 := ih u (by simp)
      have h4 := h.2.1
      have h5 := canon_head h.2.2
      omega
    · exact ih s hs
/-- where the last span ends -/
def lastTo (out : List Sp) : Option Int := out.getLast?.map (·.2)
/-- the days from an end to the next one -/
def byStep (W : Int → Bool) (out : List Sp) (x y : Int) : List Sp := if W x then (if lastTo out = some x then setTo out y else out ++ [(x, y)]) else out
def byW (W : Int → Bool) : List Int → List Sp → List Sp
  | x :: y :: l, out => byW W (y :: l) (byStep W out x y)
  | _, out => out
theorem byW_is (W : Int → Bool) (E : List Int) (hE : Up E) (hc : ∀ n m, (∀ e ∈ E, e ≤ n ↔ e ≤ m) → W n = W m) (hall : ∀ n, (∀ e ∈ E, e ≤ n) → W n = false) :
    ∀ (l P : List Int) (x : Int) (out : List Sp), E = P ++ x :: l → Canon out → (∀ s ∈ out, s.2 ≤ x) → (∀ n, n < x → (Mem out n ↔ W n = true)) → Canon (byW W (x :: l) out) ∧ ∀ n, Mem (byW W (x :: l) out) n ↔ W n = true := by
  intro l
  induction l with
  | nil =>
    intro P x out he h1 h2 h3
    refine ⟨h1, fun n => ?_⟩
    show Mem out n ↔ _
    rcases Int.lt_or_le n x with c | c
    · exact h3 n c
    · rw [hall n (fun e hm => by
        subst he
        have hp := List.pairwise_append.1 hE
        rcases List.mem_append.1 hm with hm | hm
        · have := hp.2.2 e hm x (by simp); omega
        · simp at hm; omega)]
      constructor
      · rintro ⟨s, hs, g1, g2⟩; have := h2 s hs; omega
      · intro h; simp at h
  | cons y l ih =>
    intro P x out he h1 h2 h3
    have hp := List.pairwise_append.1 (he ▸ hE)
    have hq := List.pairwise_cons.1 hp.2.1
    have hxy : x < y := hq.1 y (by simp)
    have hW : ∀ n, x ≤ n → n < y → W n = W x := fun n g1 g2 => hc n x (fun e hm => by
      rw [he] at hm
      rcases List.mem_append.1 hm with hm | hm
      · have := hp.2.2 e hm x (by simp); omega
      · rcases List.mem_cons.1 hm with rfl | hm
        · omega
        · have h4 : y ≤ e := by
            rcases List.mem_cons.1 hm with rfl | hm
            · exact Int.le_refl _
            · have := (List.pairwise_cons.1 hq.2).1 e hm; omega
          omega)
    show Canon (byW W (y :: l) (byStep W out x y)) ∧ ∀ n, Mem (byW W (y :: l) (byStep W out x y)) n ↔ W n = true
    refine ih (P ++ [x]) y _ (by rw [he]; simp) ?_ ?_ ?_
    all_goals unfold byStep
    all_goals cases hx : W x
    all_goals simp only [Bool.false_eq_true, if_false, if_true]
    · exact h1
    · split
      · rename_i hl
        obtain ⟨C, p, rfl⟩ : ∃ C p, out = C ++ [(p, x)] := by
          unfold lastTo at hl
          cases hg : out.getLast? with
          | none => rw [hg] at hl; simp at hl
          | some s =>
            rw [hg] at hl
            simp at hl
            obtain ⟨C, rfl⟩ := List.getLast?_eq_some_iff.1 hg
            exact ⟨C, s.1, by rw [← hl]⟩
        rw [setTo_snoc]
        exact canon_stretch h1 (Int.le_of_lt hxy)
      · rename_i hl
        refine canon_snoc h1 hxy (fun s hs => ?_)
        exact canon_below h1 (fun t ht => h2 t ht) (fun t ht e => hl (by unfold lastTo; rw [ht]; simp [e])) s hs
    · intro s hs; have := h2 s hs; omega
    · split
      · rename_i hl
        intro s hs
        unfold setTo at hs
        split at hs
        · rcases List.mem_append.1 hs with hs | hs
          · have := h2 s (List.dropLast_subset _ hs); omega
          · simp at hs; subst hs; exact Int.le_refl _
        · have := h2 s hs; omega
      · intro s hs
        rcases List.mem_append.1 hs with hs | hs
        · have := h2 s hs; omega
        · simp at hs; subst hs; exact Int.le_refl _
    · intro n hn
      rcases Int.lt_or_le n x with c | c
      · exact h3 n c
      · rw [hW n c hn, hx]
        constructor
        · rintro ⟨s, hs, g1, g2⟩; have := h2 s hs; omega
        · intro h; simp at h
    · intro n hn
      split
      · rename_i hl
        obtain ⟨C, p, rfl⟩ : ∃ C p, out = C ++ [(p, x)] := by
          unfold lastTo at hl
          cases hg : out.getLast? with
          | none => rw [hg] at hl; simp at hl
          | some s =>
            rw [hg] at hl
            simp at hl
            obtain ⟨C, rfl⟩ := List.getLast?_eq_some_iff.1 hg
            exact ⟨C, s.1, by rw [← hl]⟩
        rw [setTo_snoc, mem_app, mem_cons]
        have hpx : p < x := canon_last h1
        rcases Int.lt_or_le n x with c | c
        · rw [← h3 n c, mem_app, mem_cons]
          simp only
          have : ¬ Mem [] n := mem_nil n
          constructor
          · rintro (h | ⟨g1, g2⟩ | h)
            · exact .inl h
            · exact .inr (.inl ⟨g1, c⟩)
            · exact absurd h this
          · rintro (h | ⟨g1, g2⟩ | h)
            · exact .inl h
            · exact .inr (.inl ⟨g1, hn⟩)
            · exact absurd h this
        · rw [hW n c hn, hx]
          exact ⟨fun _ => rfl, fun _ => .inr (.inl ⟨by show p ≤ n; omega, hn⟩)⟩
      · rw [mem_app, mem_cons]
        rcases Int.lt_or_le n x with c | c
        · rw [← h3 n c]
          constructor
          · rintro (h | ⟨g1, g2⟩ | h)
            · exact h
            · simp at g1; omega
            · exact absurd h (mem_nil n)
          · exact .inl
        · rw [hW n c hn, hx]
          exact ⟨fun _ => rfl, fun _ => .inr (.inl ⟨c, hn⟩)⟩
/-- the document's set -/
def byL (op : Int) (a b : List Sp) : List Sp := byW (fun n => opB op (has a n) (has b n)) (endsL (a ++ b)) []
theorem has_depends (l : List Sp) (E : List Int) (hm : ∀ s ∈ l, s.1 ∈ E ∧ s.2 ∈ E) (n m : Int) (h : ∀ e ∈ E, e ≤ n ↔ e ≤ m) : has l n = has l m := by
  rw [Bool.eq_iff_iff, has_iff, has_iff]
  constructor
  · rintro ⟨s, hs, g1, g2⟩
    have := h _ (hm s hs).1; have := h _ (hm s hs).2
    exact ⟨s, hs, by omega, by omega⟩
  · rintro ⟨s, hs, g1, g2⟩
    have := h _ (hm s hs).1; have := h _ (hm s hs).2
    exact ⟨s, hs, by omega, by omega⟩
theorem has_none (l : List Sp) (n : Int) (h : (∀ s ∈ l, s.2 ≤ n) ∨ ∀ s ∈ l, n < s.1) : has l n = false := by
  cases hh : has l n with
  | false => rfl
  | true =>
    obtain ⟨s, hs, g1, g2⟩ := (has_iff l n).1 hh
    rcases h with h | h
    · have := h s hs; omega
    · have := h s hs; omega
theorem opB_ff (op : Int) : opB op false false = false := by unfold opB; simp
theorem byL_is (op : Int) (a b : List Sp) : Canon (byL op a b) ∧ ∀ n, Mem (byL op a b) n ↔ opB op (has a n) (has b n) = true := by
  have hma : ∀ s ∈ a, s.1 ∈ endsL (a ++ b) ∧ s.2 ∈ endsL (a ++ b) := fun s hs => ⟨(ends_mem _ _).2 ⟨s, by simp [hs], .inl rfl⟩, (ends_mem _ _).2 ⟨s, by simp [hs], .inr rfl⟩⟩
  have hmb : ∀ s ∈ b, s.1 ∈ endsL (a ++ b) ∧ s.2 ∈ endsL (a ++ b) := fun s hs => ⟨(ends_mem _ _).2 ⟨s, by simp [hs], .inl rfl⟩, (ends_mem _ _).2 ⟨s, by simp [hs], .inr rfl⟩⟩
  have hup := ends_up (a ++ b)
  unfold byL
  generalize endsL (a ++ b) = E at *
  have hlow : ∀ n, (∀ e ∈ E, n < e) → opB op (has a n) (has b n) = false := fun n h => by
    rw [has_none a n (.inr (fun s hs => h _ (hma s hs).1)), has_none b n (.inr (fun s hs => h _ (hmb s hs).1)), opB_ff]
  cases E with
  | nil =>
    refine ⟨trivial, fun n => ?_⟩
    rw [hlow n (fun e he => by simp at he)]
    simp [byW, mem_nil]
  | cons x l =>
    refine byW_is _ (x :: l) hup (fun n m h => ?_) (fun n h => ?_) l [] x [] rfl trivial (fun s hs => by simp at hs) (fun n hn => ?_)
    · show opB op (has a n) (has b n) = opB op (has a m) (has b m)
      rw [has_depends a _ hma n m h, has_depends b _ hmb n m h]
    · show opB op (has a n) (has b n) = false
      rw [has_none a n (.inl (fun s hs => h _ (hma s hs).2)), has_none b n (.inl (fun s hs => h _ (hmb s hs).2)), opB_ff]
    · show Mem [] n ↔ opB op (has a n) (has b n) = true
      rw [hlow n (fun e he => by
        rcases List.mem_cons.1 he with rfl | he
        · exact hn
        · have := (List.pairwise_cons.1 hup).1 e he; omega)]
      simp [mem_nil]
theorem setTo_len (l : List Sp) (y : Int) : (setTo l y).length = l.length := by
  unfold setTo
  split
  · rename_i s hs
    have : l ≠ [] := by intro e; subst e; simp at hs
    have := List.length_pos_iff.2 this
    simp; omega
  · rfl
theorem byStep_len (W : Int → Bool) (out : List Sp) (x y : Int) : (byStep W out x y).length ≤ out.length + 1 := by
  unfold byStep
  split
  · split
    · rw [setTo_len]; omega
    · simp
  · omega
theorem byW_len (W : Int → Bool) : ∀ (l : List Int) (out : List Sp), (byW W l out).length ≤ out.length + l.length
  | [], out => by simp [byW]
  | [x], out => by simp [byW]
  | x :: y :: l, out => by
    have h1 := byW_len W (y :: l) (byStep W out x y)
    have h2 := byStep_len W out x y
    show (byW W (y :: l) (byStep W out x y)).length ≤ _
    simp at h1 ⊢; omega
end Sn
end Go.Proofs.YtdfdjampodkpgaaDoor
end

/-! SpansHas -/
section
/- Sets of days: Has and Size. -/
set_option linter.unusedSimpArgs false
set_option linter.unusedVariables false
namespace Go.Proofs.YtdfdjampodkpgaaDoor
open Go.RowKit
namespace Sn
abbrev inS (n : Int) (s : Sp) : Bool := decide (s.1 ≤ n) && decide (n < s.2)
set_option maxHeartbeats 1000000 in
theorem cl_any (s : Sp) (n : Int) (b : Nat) (w : World) (hc : w.cell? ⟨b, 0, none⟩ = some (.int .i64 n)) (hlt : b < w.heap.size) : Calls Tryd.prog 86 #[aS s, .pointer (some ⟨b, 0, none⟩)] w (BoolQ (inS n s) w) := by
  obtain ⟨p, q⟩ := s
  unfold inS
  simp only
  have hb := (br w).alloc (Nat.le_refl _) (.cells #[.int .i64 p, .int .i64 q] 67)
  have hc2 : (w.alloc (.cells #[.int .i64 p, .int .i64 q] 67)).cell? ⟨b, 0, none⟩ = some (.int .i64 n) := (hb.cell (p := ⟨b, 0, none⟩) hlt).trans hc
  have HB := Lib.hid hb
  clear hb
  by_cases c : p ≤ n
  all_goals
    go_enter Tryd.func86, Tryd.ntmps86
    go_wp2
    go_ret
    exact ⟨by simp [c]; try (intros; omega), HB.out⟩
set_option maxRecDepth 100000 in
set_option maxHeartbeats 4000000 in
theorem idx_any (v : Value) (xs : List Sp) (n : Int) (b : Nat) (w : World) (h : RdE elS w v xs) (hcn : w.cell? ⟨b, 0, none⟩ = some (.int .i64 n)) (hlt : b < w.heap.size) :
    Calls Tryd.prog 100 #[v, .func (.func 86) #[] #[.pointer (some ⟨b, 0, none⟩)]] w (IntQ (findI (inS n) xs) w) := by
  have hle := h.len_le
  obtain ⟨a, cap, rfl, h1, h2, h3⟩ := h
  have H3 := Lib.hid h3; clear h3
  have eg : ∀ args w, (callFunc 86 args).run Tryd.prog w = .ok (.enter 86 args) w := enters_of Tryd.func86 (by kernel_rfl) rfl
  obtain ⟨RES, hRES⟩ : ∃ RES : Int, findI (inS n) xs = RES := ⟨_, rfl⟩
  rw [hRES]
  have HRES := Lib.hid hRES; clear hRES
  have HCN := Lib.hid hcn; clear hcn
  go_enter Tryd.func100, Tryd.ntmps100
  go_wp2
  go_loopw [8] (fun i wr => ∃ k : Nat, k ≤ xs.length ∧ i = .int .i64 k ∧ (∀ j (hj : j < xs.length), j < k → inS n xs[j] = false) ∧ Below w.heap.size w wr) (fun i _ => xs.length - (intOf i).toNat)
  case atStart => exact ⟨0, Nat.zero_le _, rfl, fun j hj hk => by omega, br _⟩
  case round =>
    obtain ⟨k, hk, rfl, hall, hbw⟩ := hrel
    by_cases hlt2 : k < xs.length
    · obtain ⟨g, off, rfl, hbl, hc⟩ := H3.out (by omega)
      obtain ⟨q0, q1⟩ := eS_at hc k hlt2
      have d0 := (hbw.cell (p := ⟨g, off + k * 2, none⟩) hbl).trans q0
      have d1 := (hbw.cell (p := ⟨g, off + k * 2 + 1, none⟩) hbl).trans q1
      have i1 : (k : Int) < (xs.length : Int) := by omega
      have i0 : (0 : Int) ≤ (k : Int) := by omega
      have HCL := Lib.hid (cl_any xs[k] n b wr ((hbw.cell (p := ⟨b, 0, none⟩) hlt).trans HCN.out) (by have := hbw.size; omega))
      have HBW := Lib.hid hbw; have HALL := Lib.hid hall
      by_cases he : inS n xs[k] = true
      · have hat : findN (inS n) xs = k := findN_eq _ xs k (by omega) hall (fun _ => he)
        have hR := HRES.out
        unfold findI at hR
        rw [hat, if_neg (by omega)] at hR
        have HR := Lib.hid hR
        rw [he] at HCL
        clear hbw hall hc hR hat he H3 HRES q0 q1
        generalize xs[k] = t at *
        obtain ⟨t1, t2⟩ := t
        simp only at d0 d1
        go_wp2_with fail
        refine HCL.out.mono ?_
        rintro en w3 ⟨rfl, hb3⟩
        have HB3 := Lib.hid hb3; clear hb3
        go_wp2
        go_ret
        exact ⟨by rw [← HR.out]; rfl, HBW.out.trans (HB3.out.mono HBW.out.size)⟩
      · have he' : inS n xs[k] = false := by simpa using he
        have hall2 : ∀ j (hj : j < xs.length), j < k + 1 → inS n xs[j] = false := fun j hj hjk => by
          by_cases e : j = k
          · subst e; exact he'
          · exact hall j hj (by omega)
        have HA2 := Lib.hid hall2
        rw [he'] at HCL
        clear hbw hall hc hall2 he he' H3 q0 q1
        generalize xs[k] = t at *
        obtain ⟨t1, t2⟩ := t
        simp only at d0 d1
        go_wp2_with fail
        refine HCL.out.mono ?_
        rintro en w3 ⟨rfl, hb3⟩
        have HB3 := Lib.hid hb3; clear hb3
        go_wp2
        go_roundw
        case rel => exact ⟨k + 1, by omega, by go_num, HA2.out, HBW.out.trans (HB3.out.mono HBW.out.size)⟩
        case measure => simp [intOf]; omega
    · have hat : findN (inS n) xs = xs.length := findN_eq _ xs _ (Nat.le_refl _) (fun j hj _ => hall j hj (by omega)) (fun h => absurd h (by omega))
      have hR := HRES.out
      unfold findI at hR
      rw [if_pos hat] at hR
      have HR := Lib.hid hR
      have HBW := Lib.hid hbw
      clear hbw hall hR hat H3 HRES
      go_wp2
      go_ret
      exact ⟨by rw [← HR.out]; rfl, HBW.out⟩
theorem find_has (n : Int) (l : List Sp) : decide (0 ≤ findI (inS n) l) = has l n := by
  have hn := findI_neg (inS n) l
  rw [Bool.eq_iff_iff, decide_eq_true_eq]
  unfold has
  rw [List.any_eq_true]
  constructor
  · intro h0
    by_cases hh : ∃ x ∈ l, inS n x = true
    · exact hh
    · have := hn.2 (fun x hx => by
        cases hi : inS n x with
        | false => rfl
        | true => exact absurd ⟨x, hx, hi⟩ hh)
      omega
  · rintro ⟨x, hx, hi⟩
    rcases Int.lt_or_le (findI (inS n) l) 0 with h' | h'
    · have h8 := hn.1 h' x hx; have h9 : inS n x = true := hi; rw [h8] at h9; cases h9
    · exact h'
set_option maxHeartbeats 1000000 in
theorem contains_any (v : Value) (xs : List Sp) (n : Int) (b : Nat) (w : World) (h : RdE elS w v xs) (hcn : w.cell? ⟨b, 0, none⟩ = some (.int .i64 n)) (hlt : b < w.heap.size) :
    Calls Tryd.prog 85 #[v, .func (.func 86) #[] #[.pointer (some ⟨b, 0, none⟩)]] w (BoolQ (has xs n) w) := by
  have C1 := Lib.hid (idx_any v xs n b w h hcn hlt)
  have HD := Lib.hid (find_has n xs)
  clear h hcn
  generalize findI (inS n) xs = r at *
  generalize has xs n = hb at *
  go_enter Tryd.func85, Tryd.ntmps85
  go_wp2_with fail
  refine C1.out.mono ?_
  rintro en w1 ⟨rfl, b1⟩
  go_wp2
  go_ret
  exact ⟨by rw [← HD.out]; rfl, b1⟩
def hasB (l : List Sp) (n : Int) : Bool := if chkS l = 0 then has l n else false
set_option maxRecDepth 100000 in
set_option maxHeartbeats 4000000 in
theorem has_fn (v : Value) (l : List Sp) (n : Int) (w : World) (h : RdE elS w v l) : Calls Tryd.prog 72 #[v, .int .i64 n] w (fun e w' => e = .returned (.tuple #[.bool (hasB l n), .int .i64 (chkS l)]) ∧ Below w.heap.size w w') := by
  have HV := Lib.hid h
  obtain ⟨a, cap, rfl, _, _, _⟩ := h
  have hal := (br w).alloc (Nat.le_refl _) (.cells #[.int .i64 n] 3)
  obtain ⟨wl, hwl⟩ : ∃ wl, w.alloc (.cells #[.int .i64 n] 3) = wl := ⟨_, rfl⟩
  have hbx : Box wl w.heap.size 3 [.int .i64 n] := by rw [← hwl]; exact Box.new w _ _
  rw [hwl] at hal
  have HBX := Lib.hid hbx
  have HAL := Lib.hid hal
  have CK := Lib.hid (check_any _ l wl (HV.out.below hal))
  have CO := Lib.hid (fun w' (h : RdE elS w' (.slice a l.length cap) l) => contains_any _ l n w.heap.size w' h)
  clear hal hbx
  by_cases ck0 : chkS l = 0
  · have hH : hasB l n = has l n := by unfold hasB; rw [if_pos ck0]
    rw [hH, ck0]
    rw [ck0] at CK
    clear hH
    generalize has l n = hb at *
    go_enter Tryd.func72, Tryd.ntmps72
    go_wp2_with fail
    refine CK.out.mono ?_
    rintro en w1 ⟨rfl, b1⟩
    have hb1 := bt HAL.out b1
    have HX1 := Lib.hid (HBX.out.next b1)
    have HB1 := Lib.hid hb1
    clear b1 hb1
    have hx := HX1.out.cell 0
    simp only [List.getElem?_cons_zero] at hx
    have HCO := Lib.hid (CO.out w1 (HV.out.below HB1.out) hx HX1.out.lt)
    clear CO
    go_wp2_with fail
    refine HCO.out.mono ?_
    rintro en w2 ⟨rfl, b2⟩
    have HB2 := Lib.hid (bt HB1.out b2)
    clear b2
    go_wp2
    go_ret2
    exact ⟨rfl, HB2.out⟩
  · have hH : hasB l n = false := by unfold hasB; rw [if_neg ck0]
    have hne : (chkS l != 0) = true := by simp [ck0]
    rw [hH]
    generalize chkS l = ce at *
    clear hH ck0
    go_enter Tryd.func72, Tryd.ntmps72
    go_wp2_with fail
    refine CK.out.mono ?_
    rintro en w1 ⟨rfl, b1⟩
    have HB1 := Lib.hid (bt HAL.out b1)
    clear b1
    go_wp2
    go_ret2
    exact ⟨rfl, HB1.out⟩
/-- how many days -/
def days : List Sp → Int
  | [] => 0
  | s :: l => (s.2 - s.1) + days l
theorem days_app : ∀ (l l' : List Sp), days (l ++ l') = days l + days l'
  | [], l' => by simp [days]
  | s :: l, l' => by rw [List.cons_append, days, days, days_app l l']; omega
theorem days_bd : ∀ (l : List Sp), (∀ s ∈ l, isN s) → -(2199023255552 * (l.length : Int)) ≤ days l ∧ days l ≤ 2199023255552 * (l.length : Int)
  | [], _ => by simp [days]
  | s :: l, h => by
    have h1 := days_bd l (fun t ht => h t (by simp [ht]))
    have h2 := h s (by simp)
    unfold isN at h2
    rw [days, List.length_cons]
    omega
def sizeN (l : List Sp) : Int := if chkS l = 0 then days l else 0
end Sn
end Go.Proofs.YtdfdjampodkpgaaDoor
end
