/- Frames: plain facts, no program in sight. -/
import Derived.Test.YtlpefkbgdbiinaaBase
set_option linter.unusedVariables false
namespace Go.Proofs.Ytlpefkbgdbiinaa
namespace Fr
abbrev Bs := ByteArray
theorem ba_ext {a b : Bs} (h : a.data.toList = b.data.toList) : a = b := by
  cases a; cases b
  congr 1
  exact Array.toList_inj.1 h
def mk (l : List UInt8) : Bs := ⟨l.toArray⟩
theorem mk_list (l : List UInt8) : (mk l).data.toList = l := by simp [mk]
theorem mk_size (l : List UInt8) : (mk l).size = l.length := by simp [mk, ByteArray.size]
theorem mk_of (s : Bs) : mk s.data.toList = s := ba_ext (mk_list _)
theorem mk_app (a b : List UInt8) : mk (a ++ b) = mk a ++ mk b := ba_ext (by rw [ByteArray.data_append, Array.toList_append, mk_list, mk_list, mk_list])
def emptyS : Bs := ⟨#[]⟩
/-- a length as two bytes, the great one first -/
def hd (n : Nat) : List UInt8 := [UInt8.ofNat (n / 256), UInt8.ofNat n]
def encL : List Bs → List UInt8
  | [] => []
  | t :: l => hd t.size ++ (t.data.toList ++ encL l)
theorem encL_app (l m : List Bs) : encL (l ++ m) = encL l ++ encL m := by
  induction l with
  | nil => rfl
  | cons t l ih => simp [encL, ih]
def small (l : List Bs) : Prop := ∀ t ∈ l, t.size ≤ 400
instance (l : List Bs) : Decidable (small l) := by unfold small; infer_instance
def writeF (l : List Bs) : Bs × Int := if l.length ≤ 64 ∧ small l then (mk (encL l), 0) else (emptyS, 2)
theorem encL_len (l : List Bs) (h : small l) : (encL l).length ≤ 402 * l.length := by
  induction l with
  | nil => simp [encL]
  | cons t l ih =>
    have h1 := h t (by simp)
    have h2 := ih (fun x hx => h x (by simp [hx]))
    have : t.data.toList.length = t.size := rfl
    simp [encL, hd]
    simp at this
    omega
/-- frames of a text, at most so many: the texts, and how many bytes they take -/
def rd : Nat → List UInt8 → List Bs × Nat
  | 0, _ => ([], 0)
  | k + 1, a :: b :: l => if a.toNat * 256 + b.toNat ≤ 400 ∧ a.toNat * 256 + b.toNat ≤ l.length then (mk (l.take (a.toNat * 256 + b.toNat)) :: (rd k (l.drop (a.toNat * 256 + b.toNat))).1, 2 + (a.toNat * 256 + b.toNat) + (rd k (l.drop (a.toNat * 256 + b.toNat))).2) else ([], 0)
  | _ + 1, _ => ([], 0)
theorem rd_short (k : Nat) (l : List UInt8) (h : l.length < 2) : rd k l = ([], 0) := by
  match k, l, h with
  | 0, _, _ => rfl
  | k + 1, [], _ => rfl
  | k + 1, [a], _ => rfl
  | k + 1, a :: b :: l, h => simp at h; omega
theorem rd_cons (k : Nat) (a b : UInt8) (l : List UInt8) : rd (k + 1) (a :: b :: l) = if a.toNat * 256 + b.toNat ≤ 400 ∧ a.toNat * 256 + b.toNat ≤ l.length then (mk (l.take (a.toNat * 256 + b.toNat)) :: (rd k (l.drop (a.toNat * 256 + b.toNat))).1, 2 + (a.toNat * 256 + b.toNat) + (rd k (l.drop (a.toNat * 256 + b.toNat))).2) else ([], 0) := rfl
theorem hd_val (n : Nat) (h : n ≤ 400) : (UInt8.ofNat (n / 256)).toNat * 256 + (UInt8.ofNat n).toNat = n := by
  have h1 : (UInt8.ofNat (n / 256)).toNat = n / 256 % 256 := by simp
  have h2 : (UInt8.ofNat n).toNat = n % 256 := by simp
  rw [h1, h2]; omega
/-- a whole frame ahead is read -/
theorem rd_one (k : Nat) (t : Bs) (h : t.size ≤ 400) (r : List UInt8) : rd (k + 1) (hd t.size ++ (t.data.toList ++ r)) = (t :: (rd k r).1, 2 + t.size + (rd k r).2) := by
  have hl : t.data.toList.length = t.size := rfl
  show rd (k + 1) (UInt8.ofNat (t.size / 256) :: UInt8.ofNat t.size :: (t.data.toList ++ r)) = _
  rw [rd_cons, hd_val _ h, if_pos ⟨h, by rw [List.length_append, hl]; omega⟩]
  have e1 : (t.data.toList ++ r).take t.size = t.data.toList := by rw [← hl, List.take_left']; rfl
  have e2 : (t.data.toList ++ r).drop t.size = r := by rw [← hl, List.drop_left']; rfl
  rw [e1, e2, mk_of]
/-- what is written is read, and what is behind it as by itself -/
theorem rd_enc (l : List Bs) (h : small l) : ∀ (k : Nat) (r : List UInt8), l.length ≤ k → rd k (encL l ++ r) = (l ++ (rd (k - l.length) r).1, (encL l).length + (rd (k - l.length) r).2) := by
  induction l with
  | nil => intro k r _; simp [encL]
  | cons t l ih =>
    intro k r hk
    match k, hk with
    | k + 1, hk =>
      have := ih (fun x hx => h x (by simp [hx])) k r (by simpa using hk)
      have hl : t.data.toList.length = t.size := rfl
      rw [show encL (t :: l) ++ r = hd t.size ++ (t.data.toList ++ (encL l ++ r)) by simp [encL], rd_one k t (h t (by simp)), this]
      have e : k + 1 - (t :: l).length = k - l.length := by simp
      have e2 : (encL (t :: l)).length = 2 + t.size + (encL l).length := by simp [encL, hd]; simp at hl; omega
      rw [e, e2]
      simp only [List.cons_append, Nat.add_assoc]
theorem rd_zero (r : List UInt8) : rd 0 r = ([], 0) := by cases r <;> rfl
theorem rd_nil (k : Nat) : rd k [] = ([], 0) := rd_short k [] (by simp)
theorem rd_back (l : List Bs) (h : small l) (hl : l.length ≤ 64) : rd 64 (encL l) = (l, (encL l).length) := by
  have := rd_enc l h 64 [] hl
  rw [rd_nil, List.append_nil, List.append_nil] at this
  simpa using this
/-- what is read was written just so -/
theorem rd_was : ∀ (k : Nat) (s : List UInt8), (rd k s).1.length ≤ k ∧ small (rd k s).1 ∧ (rd k s).2 ≤ s.length ∧ encL (rd k s).1 = s.take (rd k s).2
  | 0, s => by rw [rd_zero]; exact ⟨by simp, by intro t ht; simp at ht, by simp, by simp [encL]⟩
  | k + 1, [] => by rw [rd_nil]; exact ⟨by simp, by intro t ht; simp at ht, by simp, by simp [encL]⟩
  | k + 1, [a] => by rw [rd_short _ _ (by simp)]; exact ⟨by simp, by intro t ht; simp at ht, by simp, by simp [encL]⟩
  | k + 1, a :: b :: l => by
    rw [rd_cons]
    by_cases hc : a.toNat * 256 + b.toNat ≤ 400 ∧ a.toNat * 256 + b.toNat ≤ l.length
    · rw [if_pos hc]
      obtain ⟨n, hn⟩ : ∃ n, a.toNat * 256 + b.toNat = n := ⟨_, rfl⟩
      obtain ⟨h1, h2, h3, h4⟩ := rd_was k (l.drop n)
      rw [hn] at hc ⊢
      have hsz : (mk (l.take n)).size = n := by rw [mk_size, List.length_take]; omega
      have ha := a.toNat_lt; have hb := b.toNat_lt
      have hh : hd n = [a, b] := by
        unfold hd
        have e1 : UInt8.ofNat (n / 256) = a := by
          apply UInt8.toNat.inj; simp; omega
        have e2 : UInt8.ofNat n = b := by
          apply UInt8.toNat.inj; simp; omega
        rw [e1, e2]
      refine ⟨by simpa using h1, ?_, ?_, ?_⟩
      · intro t ht
        rcases List.mem_cons.mp ht with rfl | ht
        · rw [hsz]; exact hc.1
        · exact h2 t ht
      · simp at h3 ⊢; omega
      · show encL (_ :: _) = _
        simp only [encL, hsz, hh, mk_list, h4]
        rw [show 2 + n + (rd k (List.drop n l)).2 = (n + (rd k (List.drop n l)).2) + 2 by omega]
        simp only [List.take_succ_cons, List.cons_append, List.nil_append]
        rw [List.take_add]
    · rw [if_neg hc]
      exact ⟨by simp, by intro t ht; simp at ht, by simp, by simp [encL]⟩
/-- fewer at most: the first ones -/
theorem rd_fewer : ∀ (k j : Nat) (s : List UInt8), j ≤ k → (rd j s).1 = (rd k s).1.take j ∧ ((rd k s).1.length ≤ j → rd j s = rd k s)
  | k, 0, s, _ => by
    rw [rd_zero]
    refine ⟨by simp, fun h => ?_⟩
    match k, s with
    | 0, s => rw [rd_zero]
    | k + 1, [] => rw [rd_nil]
    | k + 1, [a] => rw [rd_short _ _ (by simp)]
    | k + 1, a :: b :: l =>
      rw [rd_cons] at h ⊢
      by_cases hc : a.toNat * 256 + b.toNat ≤ 400 ∧ a.toNat * 256 + b.toNat ≤ l.length
      · rw [if_pos hc] at h; simp at h
      · rw [if_neg hc]
  | k + 1, j + 1, [], _ => by rw [rd_nil, rd_nil]; simp
  | k + 1, j + 1, [a], _ => by rw [rd_short _ _ (by simp), rd_short _ _ (by simp)]; simp
  | k + 1, j + 1, a :: b :: l, h => by
    rw [rd_cons, rd_cons]
    by_cases hc : a.toNat * 256 + b.toNat ≤ 400 ∧ a.toNat * 256 + b.toNat ≤ l.length
    · rw [if_pos hc, if_pos hc]
      obtain ⟨h1, h2⟩ := rd_fewer k j (l.drop (a.toNat * 256 + b.toNat)) (by omega)
      refine ⟨by simp [h1], fun h => ?_⟩
      rw [h2 (by simpa using h)]
    · rw [if_neg hc, if_neg hc]; simp
/-- of a text torn off: as many of the first ones as have no more bytes -/
def torn : List Bs → Nat → Nat × Nat
  | [], _ => (0, 0)
  | t :: l, k => if 2 + t.size ≤ k then ((torn l (k - (2 + t.size))).1 + 1, 2 + t.size + (torn l (k - (2 + t.size))).2) else (0, 0)
theorem torn_le (l : List Bs) : ∀ k, (torn l k).1 ≤ l.length := by
  induction l with
  | nil => intro k; simp [torn]
  | cons t l ih =>
    intro k
    unfold torn
    split
    · have := ih (k - (2 + t.size)); simp; omega
    · simp
theorem rd_torn : ∀ (l : List Bs), small l → ∀ (m k : Nat), l.length ≤ m → rd m ((encL l).take k) = (l.take (torn l k).1, (torn l k).2)
  | [], _, m, k, _ => by simp [encL, rd_nil, torn]
  | t :: l, h, m + 1, k, hm => by
    have hl : t.data.toList.length = t.size := rfl
    have ht := h t (by simp)
    by_cases hk : 2 + t.size ≤ k
    · have ih := rd_torn l (fun x hx => h x (by simp [hx])) m (k - (2 + t.size)) (by simpa using hm)
      have e : (encL (t :: l)).take k = hd t.size ++ (t.data.toList ++ (encL l).take (k - (2 + t.size))) := by
        have e1 : encL (t :: l) = (hd t.size ++ t.data.toList) ++ encL l := by simp [encL]
        have e2 : (hd t.size ++ t.data.toList).length = 2 + t.size := by rw [List.length_append, hl]; rfl
        rw [e1, List.take_append, e2, List.take_of_length_le (by omega), List.append_assoc]
      have ec : torn (t :: l) k = ((torn l (k - (2 + t.size))).1 + 1, 2 + t.size + (torn l (k - (2 + t.size))).2) := by
        show (if _ then _ else _) = _
        rw [if_pos hk]
      rw [e, rd_one m t ht, ih, ec]
      rfl
    · have e : torn (t :: l) k = (0, 0) := by unfold torn; rw [if_neg hk]
      rw [e, List.take_zero]
      by_cases h2 : k < 2
      · exact rd_short _ _ (by rw [List.length_take]; omega)
      · obtain ⟨j, rfl⟩ : ∃ j, k = j + 2 := ⟨k - 2, by omega⟩
        show rd (m + 1) ((UInt8.ofNat (t.size / 256) :: UInt8.ofNat t.size :: (t.data.toList ++ encL l)).take (j + 2)) = _
        rw [List.take_succ_cons, List.take_succ_cons, rd_cons, hd_val _ ht, if_neg]
        rw [List.length_take]
        omega
/-- behind whole frames others are read as by themselves -/
theorem rd_more (l : List Bs) (h : small l) (hl : l.length ≤ 64) (s : List UInt8) :
    (64 < l.length + (rd 64 s).1.length → (rd 64 (encL l ++ s)).1.length = 64) ∧
    (l.length + (rd 64 s).1.length ≤ 64 → rd 64 (encL l ++ s) = (l ++ (rd 64 s).1, (encL l).length + (rd 64 s).2)) := by
  have he := rd_enc l h 64 s hl
  obtain ⟨f1, f2⟩ := rd_fewer 64 (64 - l.length) s (by omega)
  refine ⟨fun hg => ?_, fun hg => ?_⟩
  · rw [he, f1]; simp; omega
  · rw [he, f2 (by omega)]
end Fr
end Go.Proofs.Ytlpefkbgdbiinaa
