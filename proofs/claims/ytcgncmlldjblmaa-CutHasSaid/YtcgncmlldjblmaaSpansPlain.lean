/- Sets of days: the one form, and what a sweep over edges makes: plain facts. -/
import Derived.Test.YtcgncmlldjblmaaBase
set_option linter.unusedSimpArgs false
set_option linter.unusedVariables false
namespace Go.Proofs.Ytcgncmlldjblmaa
namespace Sn
abbrev Sp := Int × Int
/-- is a day of one of them? -/
def Mem (l : List Sp) (n : Int) : Prop := ∃ s ∈ l, s.1 ≤ n ∧ n < s.2
theorem mem_nil (n : Int) : ¬ Mem [] n := fun ⟨s, h, _⟩ => by simp at h
theorem mem_cons (s : Sp) (l : List Sp) (n : Int) : Mem (s :: l) n ↔ (s.1 ≤ n ∧ n < s.2) ∨ Mem l n := by
  constructor
  · rintro ⟨t, ht, h⟩
    rcases List.mem_cons.1 ht with rfl | ht
    · exact .inl h
    · exact .inr ⟨t, ht, h⟩
  · rintro (h | ⟨t, ht, h⟩)
    · exact ⟨s, by simp, h⟩
    · exact ⟨t, by simp [ht], h⟩
theorem mem_app (l l' : List Sp) (n : Int) : Mem (l ++ l') n ↔ Mem l n ∨ Mem l' n := by
  constructor
  · rintro ⟨t, ht, h⟩
    rcases List.mem_append.1 ht with ht | ht
    · exact .inl ⟨t, ht, h⟩
    · exact .inr ⟨t, ht, h⟩
  · rintro (⟨t, ht, h⟩ | ⟨t, ht, h⟩)
    · exact ⟨t, by simp [ht], h⟩
    · exact ⟨t, by simp [ht], h⟩
/-- the one form: rising, none empty, none that touch -/
def Canon : List Sp → Prop
  | [] => True
  | [s] => s.1 < s.2
  | s :: t :: l => s.1 < s.2 ∧ s.2 < t.1 ∧ Canon (t :: l)
theorem canon_tail {s : Sp} {l : List Sp} (h : Canon (s :: l)) : Canon l := by
  cases l with
  | nil => trivial
  | cons t l => exact h.2.2
theorem canon_head {s : Sp} {l : List Sp} (h : Canon (s :: l)) : s.1 < s.2 := by
  cases l with
  | nil => exact h
  | cons t l => exact h.1
theorem canon_from : ∀ {l : List Sp} {s : Sp}, Canon (s :: l) → ∀ t ∈ l, s.2 < t.1
  | [], _, _, t, ht => by simp at ht
  | u :: l, s, h, t, ht => by
    rcases List.mem_cons.1 ht with rfl | ht
    · exact h.2.1
    · have h1 := canon_from h.2.2 t ht
      have h2 := canon_head h.2.2
      have h3 := h.2.1
      omega
theorem mem_ge {s : Sp} {l : List Sp} (h : Canon (s :: l)) {n : Int} (hn : Mem (s :: l) n) : s.1 ≤ n := by
  rcases (mem_cons _ _ _).1 hn with h1 | ⟨t, ht, h1, h2⟩
  · exact h1.1
  · have := canon_from h t ht
    have := canon_head h
    omega
theorem mem_tail {s : Sp} {l : List Sp} (h : Canon (s :: l)) (n : Int) : Mem l n ↔ (s.2 ≤ n ∧ Mem (s :: l) n) := by
  rw [mem_cons]
  constructor
  · rintro ⟨t, ht, h1, h2⟩
    have := canon_from h t ht
    exact ⟨by omega, .inr ⟨t, ht, h1, h2⟩⟩
  · rintro ⟨h1, h2 | h2⟩
    · omega
    · exact h2
theorem mem_end {s : Sp} {l : List Sp} (h : Canon (s :: l)) : ¬ Mem (s :: l) s.2 := by
  rw [mem_cons]
  rintro (h1 | ⟨t, ht, h1, h2⟩)
  · omega
  · have := canon_from h t ht; omega
theorem mem_start {s : Sp} {l : List Sp} (h : Canon (s :: l)) {n : Int} (h1 : s.1 ≤ n) (h2 : n < s.2) : Mem (s :: l) n := (mem_cons _ _ _).2 (.inl ⟨h1, h2⟩)
/-- a set has one form alone -/
theorem canon_unique : ∀ {l l' : List Sp}, Canon l → Canon l' → (∀ n, Mem l n ↔ Mem l' n) → l = l'
  | [], [], _, _, _ => rfl
  | [], s :: l', _, h', hm => absurd ((hm s.1).2 (mem_start h' (Int.le_refl _) (canon_head h'))) (mem_nil _)
  | s :: l, [], h, _, hm => absurd ((hm s.1).1 (mem_start h (Int.le_refl _) (canon_head h))) (mem_nil _)
  | s :: l, s' :: l', h, h', hm => by
    have hs := canon_head h
    have hs' := canon_head h'
    have e1 : s.1 = s'.1 := by
      have g1 := mem_ge h' ((hm s.1).1 (mem_start h (Int.le_refl _) hs))
      have g2 := mem_ge h ((hm s'.1).2 (mem_start h' (Int.le_refl _) hs'))
      omega
    have e2 : s.2 = s'.2 := by
      rcases Int.lt_or_le s.2 s'.2 with hlt | hle
      · exact absurd ((hm s.2).2 (mem_start h' (by omega) hlt)) (mem_end h)
      · rcases Int.lt_or_le s'.2 s.2 with hlt | hle'
        · exact absurd ((hm s'.2).1 (mem_start h (by omega) hlt)) (mem_end h')
        · omega
    have e : s = s' := Prod.ext e1 e2
    subst e
    rw [canon_unique (canon_tail h) (canon_tail h') (fun n => by rw [mem_tail h, mem_tail h', hm])]
/-- one more behind a form -/
theorem canon_snoc : ∀ {l : List Sp} {t : Sp}, Canon l → t.1 < t.2 → (∀ s ∈ l, s.2 < t.1) → Canon (l ++ [t])
  | [], t, _, h, _ => h
  | [s], t, h1, h, h2 => ⟨h1, h2 s (by simp), h⟩
  | s :: u :: l, t, h1, h, h2 => ⟨h1.1, h1.2.1, canon_snoc (l := u :: l) h1.2.2 h (fun x hx => h2 x (by simp at hx ⊢; exact .inr hx))⟩
/-- where a span begins or ends, and what opens or closes there: of the first set, of the second one -/
structure Ed where
  at_ : Int
  first : Int
  second : Int
/-- what is open at a day -/
def cnt (g : Ed → Int) : List Ed → Int → Int
  | [], _ => 0
  | e :: l, n => (if e.at_ ≤ n then g e else 0) + cnt g l n
theorem cnt_app (g : Ed → Int) : ∀ (l l' : List Ed) (n : Int), cnt g (l ++ l') n = cnt g l n + cnt g l' n
  | [], l', n => by simp [cnt]
  | e :: l, l', n => by simp only [List.cons_append, cnt, cnt_app g l l' n]; omega
theorem cnt_perm (g : Ed → Int) {l l' : List Ed} (h : l.Perm l') (n : Int) : cnt g l n = cnt g l' n := by
  induction h with
  | nil => rfl
  | cons x _ ih => simp only [cnt, ih]
  | swap x y l => simp only [cnt]; omega
  | trans _ _ ih1 ih2 => rw [ih1, ih2]
def tot (g : Ed → Int) : List Ed → Int
  | [] => 0
  | e :: l => g e + tot g l
theorem tot_app (g : Ed → Int) : ∀ (l l' : List Ed), tot g (l ++ l') = tot g l + tot g l'
  | [], l' => by simp [tot]
  | e :: l, l' => by simp only [List.cons_append, tot, tot_app g l l']; omega
theorem cnt_all (g : Ed → Int) : ∀ (l : List Ed) (n : Int), (∀ e ∈ l, e.at_ ≤ n) → cnt g l n = tot g l
  | [], _, _ => rfl
  | e :: l, n, h => by simp only [cnt, tot, if_pos (h e (by simp)), cnt_all g l n (fun x hx => h x (by simp [hx]))]
theorem cnt_none (g : Ed → Int) : ∀ (l : List Ed) (n : Int), (∀ e ∈ l, n < e.at_) → cnt g l n = 0
  | [], _, _ => rfl
  | e :: l, n, h => by
    have := h e (by simp)
    simp only [cnt, if_neg (show ¬ e.at_ ≤ n by omega), cnt_none g l n (fun x hx => h x (by simp [hx]))]; omega
/-- rising -/
def Ris : List Ed → Prop
  | [] => True
  | [_] => True
  | e :: e2 :: l => e.at_ ≤ e2.at_ ∧ Ris (e2 :: l)
theorem ris_ge : ∀ {l : List Ed} {e : Ed}, Ris (e :: l) → ∀ x ∈ l, e.at_ ≤ x.at_
  | [], _, _, x, hx => by simp at hx
  | u :: l, e, h, x, hx => by
    rcases List.mem_cons.1 hx with rfl | hx
    · exact h.1
    · exact Int.le_trans h.1 (ris_ge h.2 x hx)
theorem ris_tail {l : List Ed} {e : Ed} (h : Ris (e :: l)) : Ris l := by
  cases l with
  | nil => trivial
  | cons u l => exact h.2
/-- the last one's end is told -/
def setTo (l : List Sp) (n : Int) : List Sp := match l.getLast? with
  | some s => l.dropLast ++ [(s.1, n)]
  | none => l
theorem setTo_snoc (l : List Sp) (s : Sp) (n : Int) : setTo (l ++ [s]) n = l ++ [(s.1, n)] := by unfold setTo; simp
/-- one edge -/
def sweepStep (want : Int → Int → Bool) (e : Ed) (f s : Int) (on : Bool) (out : List Sp) : List Sp :=
  if want f s && !on then out ++ [(e.at_, 0)] else if !(want f s) && on then setTo out e.at_ else out
/-- is the next edge at the same day? -/
def more (e : Ed) : List Ed → Bool
  | [] => false
  | e2 :: _ => e2.at_ == e.at_
def sweepL (want : Int → Int → Bool) : List Ed → Int → Int → Bool → List Sp → List Sp
  | [], _, _, _, out => out
  | e :: l, f, s, on, out =>
    if more e l = true then sweepL want l (f + e.first) (s + e.second) on out
    else sweepL want l (f + e.first) (s + e.second) (want (f + e.first) (s + e.second)) (sweepStep want e (f + e.first) (s + e.second) on out)
/-- what has been told of the days below a bound -/
def TD (W : Int → Bool) (on : Bool) (out : List Sp) (b : Int) : Prop :=
  match on with
  | true => ∃ C x, out = C ++ [(x, 0)] ∧ Canon C ∧ (∀ s ∈ C, s.2 < x) ∧ x < b ∧ ∀ n, n < b → ((Mem C n ∨ x ≤ n) ↔ W n = true)
  | false => Canon out ∧ (∀ s ∈ out, s.2 < b) ∧ ∀ n, n < b → (Mem out n ↔ W n = true)
/-- what a sweep makes: the one form of the days at which it holds -/
theorem sweep_is (want : Int → Int → Bool) (d : List Ed) (hw : want (tot Ed.first d) (tot Ed.second d) = false) :
    ∀ (l P : List Ed) (on : Bool) (out : List Sp), d = P ++ l → Ris l → (∀ x ∈ P, ∀ y ∈ l, x.at_ ≤ y.at_) →
      (∀ e, l.head? = some e → TD (fun n => want (cnt Ed.first d n) (cnt Ed.second d n)) on out e.at_) →
      (l = [] → on = false ∧ Canon out ∧ ∀ n, Mem out n ↔ want (cnt Ed.first d n) (cnt Ed.second d n) = true) →
      Canon (sweepL want l (tot Ed.first P) (tot Ed.second P) on out) ∧ ∀ n, Mem (sweepL want l (tot Ed.first P) (tot Ed.second P) on out) n ↔ want (cnt Ed.first d n) (cnt Ed.second d n) = true := by
  intro l
  induction l with
  | nil => intro P on out _ _ _ _ h; exact (h rfl).2
  | cons e l ih =>
    intro P on out hd hr hP hI0 _
    have hI := hI0 e rfl
    clear hI0
    have hPe : ∀ g : Ed → Int, tot g P + g e = tot g (P ++ [e]) := fun g => by rw [tot_app]; simp [tot]
    have hd' : d = (P ++ [e]) ++ l := by rw [hd]; simp
    have hP' : ∀ x ∈ P ++ [e], ∀ y ∈ l, x.at_ ≤ y.at_ := fun x hx y hy => by
      rcases List.mem_append.1 hx with hx | hx
      · exact hP x hx y (by simp [hy])
      · simp only [List.mem_singleton] at hx; subst hx; exact ris_ge hr y hy
    unfold sweepL
    by_cases hm : more e l = true
    · rw [if_pos hm, hPe Ed.first, hPe Ed.second]
      cases l with
      | nil => simp [more] at hm
      | cons e2 l =>
        have he : e2.at_ = e.at_ := by simpa [more] using hm
        refine ih (P ++ [e]) on out hd' (ris_tail hr) hP' (fun e' h' => ?_) (fun h => by simp at h)
        simp only [List.head?_cons, Option.some.injEq] at h'
        subst h'
        rw [he]; exact hI
    · rw [if_neg hm, hPe Ed.first, hPe Ed.second]
      have hgt : ∀ y ∈ l, e.at_ < y.at_ := fun y hy => by
        cases l with
        | nil => simp at hy
        | cons e2 l =>
          have h1 : ¬ e2.at_ = e.at_ := by simpa [more] using hm
          have h2 := hr.1
          rcases List.mem_cons.1 hy with rfl | hy
          · omega
          · have := ris_ge hr.2 y hy; omega
      have hval : ∀ (g : Ed → Int) (n : Int), e.at_ ≤ n → (∀ y ∈ l, n < y.at_) → cnt g d n = tot g (P ++ [e]) := fun g n h1 h2 => by
        rw [hd', cnt_app, cnt_none g l n h2, cnt_all g (P ++ [e]) n (fun x hx => by
          rcases List.mem_append.1 hx with hx | hx
          · exact Int.le_trans (hP x hx e (by simp)) h1
          · simp only [List.mem_singleton] at hx; subst hx; exact h1)]
        omega
      obtain ⟨now, hnow⟩ : ∃ b, want (tot Ed.first (P ++ [e])) (tot Ed.second (P ++ [e])) = b := ⟨_, rfl⟩
      have hW : ∀ n, e.at_ ≤ n → (∀ y ∈ l, n < y.at_) → want (cnt Ed.first d n) (cnt Ed.second d n) = now := fun n h1 h2 => by rw [hval _ n h1 h2, hval _ n h1 h2, hnow]
      have hend : l = [] → now = false := fun hl => by
        rw [← hnow, ← hw, hd', hl, List.append_nil]
      rw [hnow]
      refine ih (P ++ [e]) now _ hd' (ris_tail hr) hP' (fun e' h' => ?_) (fun hl => ?_)
      · -- the days up to the next edge
        have hlt : ∀ n, n < e'.at_ → ∀ y ∈ l, n < y.at_ := fun n hn y hy => by
          cases l with
          | nil => simp at hy
          | cons e2 l =>
            simp only [List.head?_cons, Option.some.injEq] at h'
            subst h'
            rcases List.mem_cons.1 hy with rfl | hy
            · exact hn
            · exact Int.lt_of_lt_of_le hn (ris_ge (ris_tail hr) y hy)
        have hee : e.at_ < e'.at_ := hgt e' (by
          cases l with
          | nil => simp at h'
          | cons e2 l => simp only [List.head?_cons, Option.some.injEq] at h'; subst h'; simp)
        unfold sweepStep
        rw [hnow]
        cases on with
        | false =>
          obtain ⟨h1, h2, h3⟩ := hI
          have h3 : ∀ n, n < e.at_ → (Mem out n ↔ want (cnt Ed.first d n) (cnt Ed.second d n) = true) := h3
          cases now with
          | false =>
            refine (show Canon out ∧ (∀ s ∈ out, s.2 < e'.at_) ∧ ∀ n, n < e'.at_ → (Mem out n ↔ want (cnt Ed.first d n) (cnt Ed.second d n) = true) from ⟨h1, fun s hs => by have := h2 s hs; omega, fun n hn => ?_⟩)
            rcases Int.lt_or_le n e.at_ with hl | hl
            · exact h3 n hl
            · rw [hW n hl (hlt n hn)]
              constructor
              · rintro ⟨s, hs, g1, g2⟩; have := h2 s hs; omega
              · intro h; simp at h
          | true =>
            refine (show ∃ C x, out ++ [(e.at_, 0)] = C ++ [(x, 0)] ∧ Canon C ∧ (∀ s ∈ C, s.2 < x) ∧ x < e'.at_ ∧ ∀ n, n < e'.at_ → ((Mem C n ∨ x ≤ n) ↔ want (cnt Ed.first d n) (cnt Ed.second d n) = true) from ⟨out, e.at_, rfl, h1, h2, hee, fun n hn => ?_⟩)
            rcases Int.lt_or_le n e.at_ with hl | hl
            · rw [← h3 n hl]
              constructor
              · rintro (h | h)
                · exact h
                · omega
              · exact .inl
            · rw [hW n hl (hlt n hn)]
              exact ⟨fun _ => rfl, fun _ => .inr hl⟩
        | true =>
          obtain ⟨C, x, rfl, h1, h2, hx, h3⟩ := hI
          have h3 : ∀ n, n < e.at_ → ((Mem C n ∨ x ≤ n) ↔ want (cnt Ed.first d n) (cnt Ed.second d n) = true) := h3
          cases now with
          | false =>
            refine (show Canon (setTo (C ++ [(x, 0)]) e.at_) ∧ (∀ s ∈ setTo (C ++ [(x, 0)]) e.at_, s.2 < e'.at_) ∧ ∀ n, n < e'.at_ → (Mem (setTo (C ++ [(x, 0)]) e.at_) n ↔ want (cnt Ed.first d n) (cnt Ed.second d n) = true) from ?_)
            rw [setTo_snoc]
            refine ⟨canon_snoc h1 hx h2, fun s hs => ?_, fun n hn => ?_⟩
            · rcases List.mem_append.1 hs with hs | hs
              · have := h2 s hs; omega
              · simp only [List.mem_singleton] at hs; subst hs; exact hee
            · rw [mem_app, mem_cons]
              rcases Int.lt_or_le n e.at_ with hl | hl
              · rw [← h3 n hl]
                constructor
                · rintro (h | ⟨h, _⟩ | h)
                  · exact .inl h
                  · exact .inr h
                  · exact absurd h (mem_nil n)
                · rintro (h | h)
                  · exact .inl h
                  · exact .inr (.inl ⟨h, hl⟩)
              · rw [hW n hl (hlt n hn)]
                constructor
                · rintro (⟨s, hs, g1, g2⟩ | ⟨_, h⟩ | h)
                  · have := h2 s hs; omega
                  · exact absurd h (by show ¬ n < e.at_; omega)
                  · exact absurd h (mem_nil n)
                · intro h; simp at h
          | true =>
            refine (show ∃ C' x', C ++ [(x, 0)] = C' ++ [(x', 0)] ∧ Canon C' ∧ (∀ s ∈ C', s.2 < x') ∧ x' < e'.at_ ∧ ∀ n, n < e'.at_ → ((Mem C' n ∨ x' ≤ n) ↔ want (cnt Ed.first d n) (cnt Ed.second d n) = true) from ⟨C, x, rfl, h1, h2, by omega, fun n hn => ?_⟩)
            rcases Int.lt_or_le n e.at_ with hl | hl
            · exact h3 n hl
            · rw [hW n hl (hlt n hn)]
              exact ⟨fun _ => rfl, fun _ => .inr (by omega)⟩
      · -- the end
        have hn0 := hend hl
        subst hl
        unfold sweepStep
        rw [hnow]
        refine ⟨hn0, ?_⟩
        cases on with
        | false =>
          obtain ⟨h1, h2, h3⟩ := hI
          have h3 : ∀ n, n < e.at_ → (Mem out n ↔ want (cnt Ed.first d n) (cnt Ed.second d n) = true) := h3
          rw [hn0]
          refine (show Canon out ∧ ∀ n, Mem out n ↔ want (cnt Ed.first d n) (cnt Ed.second d n) = true from ⟨h1, fun n => ?_⟩)
          rcases Int.lt_or_le n e.at_ with hl | hl
          · exact h3 n hl
          · rw [hW n hl (fun y hy => by simp at hy), hn0]
            constructor
            · rintro ⟨s, hs, g1, g2⟩; have := h2 s hs; omega
            · intro h; simp at h
        | true =>
          obtain ⟨C, x, rfl, h1, h2, hx, h3⟩ := hI
          have h3 : ∀ n, n < e.at_ → ((Mem C n ∨ x ≤ n) ↔ want (cnt Ed.first d n) (cnt Ed.second d n) = true) := h3
          rw [hn0]
          refine (show Canon (setTo (C ++ [(x, 0)]) e.at_) ∧ ∀ n, Mem (setTo (C ++ [(x, 0)]) e.at_) n ↔ want (cnt Ed.first d n) (cnt Ed.second d n) = true from ?_)
          rw [setTo_snoc]
          refine ⟨canon_snoc h1 hx h2, fun n => ?_⟩
          rw [mem_app, mem_cons]
          rcases Int.lt_or_le n e.at_ with hl | hl
          · rw [← h3 n hl]
            constructor
            · rintro (h | ⟨h, _⟩ | h)
              · exact .inl h
              · exact .inr h
              · exact absurd h (mem_nil n)
            · rintro (h | h)
              · exact .inl h
              · exact .inr (.inl ⟨h, hl⟩)
          · rw [hW n hl (fun y hy => by simp at hy), hn0]
            constructor
            · rintro (⟨s, hs, g1, g2⟩ | ⟨_, h⟩ | h)
              · have := h2 s hs; omega
              · exact absurd h (by show ¬ n < e.at_; omega)
              · exact absurd h (mem_nil n)
            · intro h; simp at h
end Sn
end Go.Proofs.Ytcgncmlldjblmaa
