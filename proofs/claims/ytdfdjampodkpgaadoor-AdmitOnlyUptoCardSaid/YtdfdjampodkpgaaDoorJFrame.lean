/- Joined by shake.py: FramePlain FramePlain2 FrameRef. -/
import Derived.Test.YtdfdjampodkpgaaDoorJBase
import Derived.Test.YtdfdjampodkpgaaDoorJEl
import Derived.Deep.LoopGhost
import Derived.IntWalk
set_option linter.unusedSimpArgs false
set_option linter.unusedVariables false

/-! FramePlain -/
section
/- Frames: plain facts, no program in sight. -/
set_option linter.unusedSimpArgs false
set_option linter.unusedVariables false
namespace Go.Proofs.YtdfdjampodkpgaaDoor
namespace Fr
abbrev Bs := ByteArray
theorem ba_ext {a b : Bs} (h : a.data.toList = b.data.toList) : a = b := by
  cases a; cases b
  congr 1
  exact Array.toList_inj.1 h
def mk (l : List UInt8) : Bs := ⟨l.toArray⟩
theorem mk_list (l : List UInt8) : (mk l).data.toList = l := by simp [mk]
theorem mk_size (l : List UInt8) : (mk l).size = l.length := by simp [mk, ByteArray.size]
theorem mk_of (s : Bs) : mk s.data.toList = s := ba_ext (mk_list _)
theorem mk_app (a b : List UInt8) : mk (a ++ b) = mk a ++ mk b := ba_ext (by rw [ByteArray.data_append, Array.toList_append, mk_list, mk_list, mk_list])
def emptyS : Bs := ⟨#[]⟩
/-- a length as two bytes, the great one first -/
def hd (n : Nat) : List UInt8 := [UInt8.ofNat (n / 256), UInt8.ofNat n]
def encL : List Bs → List UInt8
  | [] => []
  | t :: l => hd t.size ++ (t.data.toList ++ encL l)
theorem encL_app (l m : List Bs) : encL (l ++ m) = encL l ++ encL m := by
  induction l with
  | nil => rfl
  | cons t l ih => simp [encL, ih]
def small (l : List Bs) : Prop := ∀ t ∈ l, t.size ≤ 400
instance (l : List Bs) : Decidable (small l) := by unfold small; infer_instance
def writeF (l : List Bs) : Bs × Int := if l.length ≤ 64 ∧ small l then (mk (encL l), 0) else (emptyS, 2)
theorem encL_len (l : List Bs) (h : small l) : (encL l).length ≤ 402 * l.length := by
  induction l with
  | nil => simp [encL]
  | cons t l ih =>
    have h1 := h t (by simp)
    have h2 := ih (fun x hx => h x (by simp [hx]))
    have : t.data.toList.length = t.size := rfl
    simp [encL, hd]
    simp at this
    omega
/-- frames of a text, at most so many: the texts, and how many bytes they take -/
def rd : Nat → List UInt8 → List Bs × Nat
  | 0, _ => ([], 0)
  | k + 1, a :: b :: l => if a.toNat * 256 + b.toNat ≤ 400 ∧ a.toNat * 256 + b.toNat ≤ l.length then (mk (l.take (a.toNat * 256 + b.toNat)) :: (rd k (l.drop (a.toNat * 256 + b.toNat))).1, 2 + (a.toNat * 256 + b.toNat) + (rd k (l.drop (a.toNat * 256 + b.toNat))).2) else ([], 0)
  | _ + 1, _ => ([], 0)
theorem rd_short (k : Nat) (l : List UInt8) (h : l.length < 2) : rd k l = ([], 0) := by
  match k, l, h with
  | 0, _, _ => rfl
  | k + 1, [], _ => rfl
  | k + 1, [a], _ => rfl
  | k + 1, a :: b :: l, h => simp at h; omega
theorem rd_cons (k : Nat) (a b : UInt8) (l : List UInt8) : rd (k + 1) (a :: b :: l) = if a.toNat * 256 + b.toNat ≤ 400 ∧ a.toNat * 256 + b.toNat ≤ l.length then (mk (l.take (a.toNat * 256 + b.toNat)) :: (rd k (l.drop (a.toNat * 256 + b.toNat))).1, 2 + (a.toNat * 256 + b.toNat) + (rd k (l.drop (a.toNat * 256 + b.toNat))).2) else ([], 0) := rfl
theorem hd_val (n : Nat) (h : n ≤ 400) : (UInt8.ofNat (n / 256)).toNat * 256 + (UInt8.ofNat n).toNat = n := by
  have h1 : (UInt8.ofNat (n / 256)).toNat = n / 256 % 256 := by simp
  have h2 : (UInt8.ofNat n).toNat = n % 256 := by simp
  rw [h1, h2]; omega
/-- a whole frame ahead is read -/
theorem rd_one (k : Nat) (t : Bs) (h : t.size ≤ 400) (r : List UInt8) : rd (k + 1) (hd t.size ++ (t.data.toList ++ r)) = (t :: (rd k r).1, 2 + t.size + (rd k r).2) := by
  have hl : t.data.toList.length = t.size := rfl
  show rd (k + 1) (UInt8.ofNat (t.size / 256) :: UInt8.ofNat t.size :: (t.data.toList ++ r)) = _
  rw [rd_cons, hd_val _ h, if_pos ⟨h, by rw [List.length_append, hl]; omega⟩]
  have e1 : (t.data.toList ++ r).take t.size = t.data.toList := by rw [← hl, List.take_left']; rfl
  have e2 : (t.data.toList ++ r).drop t.size = r := by rw [← hl, List.drop_left']; rfl
  rw [e1, e2, mk_of]
/-- what is written is read, and what is behind it as by itself -/
theorem rd_enc (l : List Bs) (h : small l) : ∀ (k : Nat) (r : List UInt8), l.length ≤ k → rd k (encL l ++ r) = (l ++ (rd (k - l.length) r).1, (encL l).length + (rd (k - l.length) r).2) := by
  induction l with
  | nil => intro k r _; simp [encL]
  | cons t l ih =>
    intro k r hk
    match k, hk with
    | k + 1, hk =>
      have := ih (fun x hx => h x (by simp [hx])) k r (by simpa using hk)
      have hl : t.data.toList.length = t.size := rfl
      rw [show encL (t :: l) ++ r = hd t.size ++ (t.data.toList ++ (encL l ++ r)) by simp [encL], rd_one k t (h t (by simp)), this]
      have e : k + 1 - (t :: l).length = k - l.length := by simp
      have e2 : (encL (t :: l)).length = 2 + t.size + (encL l).length := by simp [encL, hd]; simp at hl; omega
      rw [e, e2]
      simp only [List.cons_append, Nat.add_assoc]
theorem rd_zero (r : List UInt8) : rd 0 r = ([], 0) := by cases r <;> rfl
theorem rd_nil (k : Nat) : rd k [] = ([], 0) := rd_short k [] (by simp)
theorem rd_back (l : List Bs) (h : small l) (hl : l.length ≤ 64) : rd 64 (encL l) = (l, (encL l).length) := by
  have := rd_enc l h 64 [] hl
  rw [rd_nil, List.append_nil, List.append_nil] at this
  simpa using this
/-- what is read was written just so -/
theorem rd_was : ∀ (k : Nat) (s : List UInt8), (rd k s).1.length ≤ k ∧ small (rd k s).1 ∧ (rd k s).2 ≤ s.length ∧ encL (rd k s).1 = s.take (rd k s).2
  | 0, s => by rw [rd_zero]; exact ⟨by simp, by intro t ht; simp at ht, by simp, by simp [encL]⟩
  | k + 1, [] => by rw [rd_nil]; exact ⟨by simp, by intro t ht; simp at ht, by simp, by simp [encL]⟩
  | k + 1, [a] => by rw [rd_short _ _ (by simp)]; exact ⟨by simp, by intro t ht; simp at ht, by simp, by simp [encL]⟩
  | k + 1, a :: b :: l => by
    rw [rd_cons]
    by_cases hc : a.toNat * 256 + b.toNat ≤ 400 ∧ a.toNat * 256 + b.toNat ≤ l.length
    · rw [if_pos hc]
      obtain ⟨n, hn⟩ : ∃ n, a.toNat * 256 + b.toNat = n := ⟨_, rfl⟩
      obtain ⟨h1, h2, h3, h4⟩ := rd_was k (l.drop n)
      rw [hn] at hc ⊢
      have hsz : (mk (l.take n)).size = n := by rw [mk_size, List.length_take]; omega
      have ha := a.toNat_lt; have hb := b.toNat_lt
      have hh : hd n = [a, b] := by
        unfold hd
        have e1 : UInt8.ofNat (n / 256) = a := by
          apply UInt8.toNat.inj; simp; omega
        have e2 : UInt8.ofNat n = b := by
          apply UInt8.toNat.inj; simp; omega
        rw [e1, e2]
      refine ⟨by simpa using h1, ?_, ?_, ?_⟩
      · intro t ht
        rcases List.mem_cons.mp ht with rfl | ht
        · rw [hsz]; exact hc.1
        · exact h2 t ht
      · simp at h3 ⊢; omega
      · show encL (_ :: _) = _
        simp only [encL, hsz, hh, mk_list, h4]
        rw [show 2 + n + (rd k (List.drop n l)).2 = (n + (rd k (List.drop n l)).2) + 2 by omega]
        simp only [List.take_succ_cons, List.cons_append, List.nil_append]
        rw [List.take_add]
    · rw [if_neg hc]
      exact ⟨by simp, by intro t ht; simp at ht, by simp, by simp [encL]⟩
/-- fewer at most: the first ones -/
theorem rd_fewer : ∀ (k j : Nat) (s : List UInt8), j ≤ k → (rd j s).1 = (rd k s).1.take j ∧ ((rd k s).1.length ≤ j → rd j s = rd k s)
  | k, 0, s, _ => by
    rw [rd_zero]
    refine ⟨by simp, fun h => ?_⟩
    match k, s with
    | 0, s => rw [rd_zero]
    | k + 1, [] => rw [rd_nil]
    | k + 1, [a] => rw [rd_short _ _ (by simp)]
    | k + 1, a :: b :: l =>
      rw [rd_cons] at h ⊢
      by_cases hc : a.toNat * 256 + b.toNat ≤ 400 ∧ a.toNat * 256 + b.toNat ≤ l.length
      · rw [if_pos hc] at h; simp at h
      · rw [if_neg hc]
  | k + 1, j + 1, [], _ => by rw [rd_nil, rd_nil]; simp
  | k + 1, j + 1, [a], _ => by rw [rd_short _ _ (by simp), rd_short _ _ (by simp)]; simp
  | k + 1, j + 1, a :: b :: l, h => by
    rw [rd_cons, rd_cons]
    by_cases hc : a.toNat * 256 + b.toNat ≤ 400 ∧ a.toNat * 256 + b.toNat ≤ l.length
    · rw [if_pos hc, if_pos hc]
      obtain ⟨h1, h2⟩ := rd_fewer k j (l.drop (a.toNat * 256 + b.toNat)) (by omega)
      refine ⟨by simp [h1], fun h => ?_⟩
      rw [h2 (by simpa using h)]
    · rw [if_neg hc, if_neg hc]; simp
/-- of a text torn off: as many of the first ones as have no more bytes -/
def torn : List Bs → Nat → Nat × Nat
  | [], _ => (0, 0)
  | t :: l, k => if 2 + t.size ≤ k then ((torn l (k - (2 + t.size))).1 + 1, 2 + t.size + (torn l (k - (2 + t.size))).2) else (0, 0)
theorem torn_le (l : List Bs) : ∀ k, (torn l k).1 ≤ l.length := by
  induction l with
  | nil => intro k; simp [torn]
  | cons t l ih =>
    intro k
    unfold torn
    split
    · have := ih (k - (2 + t.size)); simp; omega
    · simp
theorem rd_torn : ∀ (l : List Bs), small l → ∀ (m k : Nat), l.length ≤ m → rd m ((encL l).take k) = (l.take (torn l k).1, (torn l k).2)
  | [], _, m, k, _ => by simp [encL, rd_nil, torn]
  | t :: l, h, m + 1, k, hm => by
    have hl : t.data.toList.length = t.size := rfl
    have ht := h t (by simp)
    by_cases hk : 2 + t.size ≤ k
    · have ih := rd_torn l (fun x hx => h x (by simp [hx])) m (k - (2 + t.size)) (by simpa using hm)
      have e : (encL (t :: l)).take k = hd t.size ++ (t.data.toList ++ (encL l).take (k - (2 + t.size))) := by
        have e1 : encL (t :: l) = (hd t.size ++ t.data.toList) ++ encL l := by simp [encL]
        have e2 : (hd t.size ++ t.data.toList).length = 2 + t.size := by rw [List.length_append, hl]; rfl
        rw [e1, List.take_append, e2, List.take_of_length_le (by omega), List.append_assoc]
      have ec : torn (t :: l) k = ((torn l (k - (2 + t.size))).1 + 1, 2 + t.size + (torn l (k - (2 + t.size))).2) := by
        show (if _ then _ else _) = _
        rw [if_pos hk]
      rw [e, rd_one m t ht, ih, ec]
      rfl
    · have e : torn (t :: l) k = (0, 0) := by unfold torn; rw [if_neg hk]
      rw [e, List.take_zero]
      by_cases h2 : k < 2
      · exact rd_short _ _ (by rw [List.length_take]; omega)
      · obtain ⟨j, rfl⟩ : ∃ j, k = j + 2 := ⟨k - 2, by omega⟩
        show rd (m + 1) ((UInt8.ofNat (t.size / 256) :: UInt8.ofNat t.size :: (t.data.toList ++ encL l)).take (j + 2)) = _
        rw [List.take_succ_cons, List.take_succ_cons, rd_cons, hd_val _ ht, if_neg]
        rw [List.length_take]
        omega
/-- behind whole frames others are read as by themselves -/
theorem rd_more (l : List Bs) (h : small l) (hl : l.length ≤ 64) (s : List UInt8) :
    (64 < l.length + (rd 64 s).1.length → (rd 64 (encL l ++ s)).1.length = 64) ∧
    (l.length + (rd 64 s).1.length ≤ 64 → rd 64 (encL l ++ s) = (l ++ (rd 64 s).1, (encL l).length + (rd 64 s).2)) := by
  have he := rd_enc l h 64 s hl
  obtain ⟨f1, f2⟩ := rd_fewer 64 (64 - l.length) s (by omega)
  refine ⟨fun hg => ?_, fun hg => ?_⟩
  · rw [he, f1]; simp; omega
  · rw [he, f2 (by omega)]
end Fr
end Go.Proofs.YtdfdjampodkpgaaDoor
end

/-! FramePlain2 -/
section
/- Frames: plain facts on bytes of a number, and on texts cut. -/
set_option linter.unusedSimpArgs false
set_option linter.unusedVariables false
namespace Go.Proofs.YtdfdjampodkpgaaDoor
namespace Fr
/-- the low i bytes of a number, the great one first -/
def bigL (n : Nat) : Nat → List UInt8
  | 0 => []
  | i + 1 => UInt8.ofNat (n / 256 ^ i % 256) :: bigL n i
theorem bigL_len (n : Nat) : ∀ i, (bigL n i).length = i
  | 0 => rfl
  | i + 1 => by simp [bigL, bigL_len n i]
theorem big_hd (n : Nat) : bigL n 2 = hd n := by
  unfold bigL bigL bigL hd
  have e1 : UInt8.ofNat (n / 256 ^ 1 % 256) = UInt8.ofNat (n / 256) := by apply UInt8.toNat.inj; simp
  have e2 : UInt8.ofNat (n / 256 ^ 0 % 256) = UInt8.ofNat n := by apply UInt8.toNat.inj; simp
  rw [e1, e2]
def oneB (n : Int) : Bs := ⟨[UInt8.ofNat n.toNat].toArray⟩
theorem mk_big (n i : Nat) : mk (bigL n (i + 1)) = oneB ((n / 256 ^ i % 256 : Nat) : Int) ++ mk (bigL n i) := by
  apply ba_ext
  rw [ByteArray.data_append, Array.toList_append, mk_list, mk_list]
  have e : (oneB ((n / 256 ^ i % 256 : Nat) : Int)).data.toList = [UInt8.ofNat (n / 256 ^ i % 256)] := by
    unfold oneB; rw [Int.toNat_natCast]
  rw [e]; rfl
theorem big_div (n i : Nat) : n / 256 ^ i / 256 = n / 256 ^ (i + 1) := by rw [Nat.div_div_eq_div_mul, Nat.pow_succ]
def numL (l : List UInt8) : Nat := l.foldl (fun n b => n * 256 + b.toNat) 0
theorem numL_snoc (l : List UInt8) (b : UInt8) : numL (l ++ [b]) = numL l * 256 + b.toNat := by simp [numL]
theorem numL_lt : ∀ l : List UInt8, numL l < 256 ^ l.length := by
  intro l
  have : ∀ (m : Nat) (l : List UInt8), l.length = m → numL l < 256 ^ m := by
    intro m
    induction m with
    | zero => intro l h; have := List.eq_nil_of_length_eq_zero h; subst this; simp [numL]
    | succ m ih =>
      intro l h
      obtain ⟨l', b, rfl⟩ : ∃ l' b, l = l' ++ [b] := ⟨l.dropLast, l.getLast (by intro e; subst e; simp at h), (List.dropLast_concat_getLast _).symm⟩
      have := ih l' (by simpa using h)
      have hb := b.toNat_lt
      rw [numL_snoc, Nat.pow_succ]; omega
  exact this _ l rfl
theorem take_snoc (s : Bs) (k : Nat) (h : k < s.size) : s.data.toList.take (k + 1) = s.data.toList.take k ++ [s[k]] := by
  rw [List.take_succ_eq_append_getElem (by simpa using h)]; rfl
theorem ext_list (s : Bs) (a b : Nat) : (s.extract a b).data.toList = (s.data.toList.drop a).take (b - a) := by
  simp [List.extract_eq_take_drop]
/-- the two bytes ahead, as a number -/
def num2 (s : Bs) : Nat := numL (s.extract 0 2).data.toList
theorem num2_lt (s : Bs) : num2 s < 65536 := by
  have h := numL_lt (s.extract 0 2).data.toList
  have hl : (s.extract 0 2).data.toList.length ≤ 2 := by rw [ext_list]; simp; omega
  have : 256 ^ (s.extract 0 2).data.toList.length ≤ 256 ^ 2 := Nat.pow_le_pow_right (by omega) hl
  unfold num2; omega
theorem num2_cons (a b : UInt8) (l : List UInt8) (s : Bs) (h : s.data.toList = a :: b :: l) : num2 s = a.toNat * 256 + b.toNat := by
  unfold num2
  rw [ext_list, h]
  simp [numL]
theorem rd_ba (k : Nat) (s : Bs) (h : 2 ≤ s.size) : rd (k + 1) s.data.toList = if num2 s ≤ 400 ∧ 2 + num2 s ≤ s.size then (s.extract 2 (2 + num2 s) :: (rd k (s.extract (2 + num2 s) s.size).data.toList).1, 2 + num2 s + (rd k (s.extract (2 + num2 s) s.size).data.toList).2) else ([], 0) := by
  have hl : s.data.toList.length = s.size := rfl
  obtain ⟨a, b, l, hs⟩ : ∃ a b l, s.data.toList = a :: b :: l := by
    match h' : s.data.toList with
    | [] => rw [h'] at hl; simp at hl; omega
    | [a] => rw [h'] at hl; simp at hl; omega
    | a :: b :: l => exact ⟨a, b, l, rfl⟩
  have hn := num2_cons a b l s hs
  rw [hs] at hl
  have hl2 : l.length + 2 = s.size := by simpa using hl
  have e1 : s.extract 2 (2 + num2 s) = mk (l.take (num2 s)) := by
    apply ba_ext; rw [ext_list, hs, mk_list]; simp
  have e2 : (s.extract (2 + num2 s) s.size).data.toList = l.drop (num2 s) := by
    rw [ext_list, hs, Nat.add_comm 2]; simp only [List.drop_succ_cons]
    rw [List.take_of_length_le]; rw [List.length_drop]; omega
  rw [hs, rd_cons, ← hn, e1, e2]
  by_cases hc : num2 s ≤ 400 ∧ num2 s ≤ l.length
  · rw [if_pos hc, if_pos ⟨hc.1, by omega⟩]
  · rw [if_neg hc, if_neg (fun h => hc ⟨h.1, by omega⟩)]
theorem app_size (a b : Bs) : (a ++ b).size = a.size + b.size := ByteArray.size_append
end Fr
end Go.Proofs.YtdfdjampodkpgaaDoor
end

/-! FrameRef -/
section
/- The document's functions on frames. -/
set_option linter.unusedSimpArgs false
set_option linter.unusedVariables false
namespace Go.Proofs.YtdfdjampodkpgaaDoor
open Go.RowKit
namespace Fr
theorem str_eq {a b : Bs} (h : a = b) : (a.toList == b.toList) = true := by rw [h]; simp
theorem str_ne {a b : Bs} (h : a ≠ b) : (a.toList == b.toList) = false := by
  rw [← Bool.not_eq_true, beq_iff_eq]
  intro e
  rw [ByteArray.toList_eq, ByteArray.toList_eq] at e
  exact h (ba_ext e)
theorem one_any (n : Int) (w : World) (h0 : 0 ≤ n) (h1 : n ≤ 255) : Calls Tryd.prog 45 #[.int .i64 n] w fun e w' => e = .returned (.string (oneB n)) ∧ Below w.heap.size w w' := by
  have w8 : IntKind.u8.wrap n = n := by rw [IntKind.wrap_u8]; omega
  have hcv : (convert 84 9 (.slice (some ⟨w.heap.size, 0, none⟩) 1 1)).run Tryd.prog (w.alloc (.cells #[.int .u8 n] 5)) = .ok (.string (oneB n)) (w.alloc (.cells #[.int .u8 n] 5)) := by
    refine run_convert_bytes_back _ 84 9 5 ⟨w.heap.size, 0, none⟩ 1 [UInt8.ofNat n.toNat] Tryd.underlying84 Tryd.underlying5 Tryd.underlying9 (fun j hj => ?_)
    have hj1 : j = 0 := by simpa using hj
    subst hj1
    have ha : (⟨w.heap.size, 0, none⟩ : Addr).add 0 = ⟨w.heap.size, 0, none⟩ := by unfold Addr.add; split <;> simp_all
    rw [ha, World.cell?_alloc_mark]
    have : ((UInt8.ofNat n.toNat).toNat : Int) = n := by
      have : (UInt8.ofNat n.toNat).toNat = n.toNat % 256 := by simp
      rw [this]; omega
    simp only [List.getElem_cons_zero]
    rw [this]; rfl
  have HO := Lib.hid (rfl : oneB n = oneB n)
  go_enter Tryd.func45, Tryd.ntmps45
  go_wp2_with fail
  go_ret
  exact ⟨rfl, by first | exact (br _).alloc (Nat.le_refl _) _ | exact bn ((br _).alloc (Nat.le_refl _) _) _⟩
set_option maxHeartbeats 2000000 in
theorem big_any (N K : Nat) (hN : N ≤ 4611686018427387904) (hK : K ≤ 8) (w : World) : Calls Tryd.prog 66 #[.int .i64 N, .int .i64 K] w fun e w' => e = .returned (.string (mk (bigL N K))) ∧ Below w.heap.size w w' := by
  have hz : mk (bigL N 0) = ⟨#[]⟩ := rfl
  have HZ := Lib.hid hz
  have h0 : N = N / 256 ^ 0 := by simp
  have H0 := Lib.hid h0
  clear hz h0
  go_enter Tryd.func66, Tryd.ntmps66
  go_wp2
  go_loopw [0, 5, 6] (fun n s i wr => ∃ k : Nat, k ≤ K ∧ i = .int .i64 k ∧ n = .int .i64 ((N / 256 ^ k : Nat) : Int) ∧ s = .string (mk (bigL N k)) ∧ Below w.heap.size w wr) (fun _ _ i _ => K - (intOf i).toNat)
  case atStart => exact ⟨0, by omega, rfl, by rw [← H0.out], by rw [HZ.out], br w⟩
  case round =>
    obtain ⟨k, hk, rfl, rfl, rfl, hbw⟩ := hrel
    by_cases hlt : k < K
    · have P := Lib.hid (mk_big N k)
      have b1 : N / 256 ^ k ≤ 4611686018427387904 := Nat.le_trans (Nat.div_le_self _ _) hN
      have s2 := big_div N k
      obtain ⟨x', hx'⟩ : ∃ x', N / 256 ^ (k + 1) = x' := ⟨_, rfl⟩
      rw [hx'] at s2
      have HX' := Lib.hid hx'
      have ps : (mk (bigL N k)).size ≤ 8 := by rw [mk_size, bigL_len]; omega
      generalize N / 256 ^ k = x at *
      obtain ⟨y, hy⟩ : ∃ y, x % 256 = y := ⟨_, rfl⟩
      rw [hy] at P
      have b2 : y < 256 := by omega
      have hon := Lib.hid (fun w => one_any (y : Int) w (by omega) (by omega))
      have d1 : (x : Int).tdiv 256 = (x' : Int) := by rw [Int.tdiv_eq_ediv_of_nonneg (by omega)]; omega
      have d1' : (x : Int) / 256 = (x' : Int) := by omega
      have m1 : (x : Int).tmod 256 = (y : Int) := by rw [Int.tmod_eq_emod_of_nonneg (by omega)]; omega
      have m1' : (x : Int) % 256 = (y : Int) := by omega
      have hw : IntKind.i64.wrap (y : Int) = (y : Int) := IntWalk.i64_in _ (by omega)
      generalize hPk : mk (bigL N k) = Pk at *
      have os : (oneB (y : Int)).size = 1 := rfl
      generalize oneB (y : Int) = On at *
      clear s2 hx' hy
      have HBW := Lib.hid hbw
      go_wp2_with fail
      refine (hon.out _).mono ?_
      rintro en w1 ⟨rfl, hb1⟩
      have HB1 := Lib.hid (HBW.out.trans (hb1.mono HBW.out.size))
      clear hb1 hbw
      go_wp2
      go_roundw
      case rel => exact ⟨k + 1, by omega, by go_num, by rw [HX'.out], by rw [P.out], HB1.out⟩
      case measure => simp [intOf]; omega
    · obtain rfl : k = K := by omega
      go_wp2
      go_ret
      exact ⟨rfl, by first | exact hbw | exact bn hbw _⟩
set_option maxHeartbeats 2000000 in
theorem num_any (s : Bs) (hs : s.size ≤ 7) (w : World) : Calls Tryd.prog 35 #[.string s] w fun e w' => e = .returned (.int .i64 (numL s.data.toList : Nat)) ∧ Below w.heap.size w w' := by
  go_enter Tryd.func35, Tryd.ntmps35
  go_wp2
  go_loopw [3, 4] (fun n i wr => ∃ k : Nat, k ≤ s.size ∧ i = .int .i64 k ∧ n = .int .i64 ((numL (s.data.toList.take k) : Nat) : Int) ∧ Below w.heap.size w wr) (fun _ i _ => s.size - (intOf i).toNat)
  case atStart => exact ⟨0, by omega, rfl, rfl, br w⟩
  case round =>
    obtain ⟨k, hk, rfl, rfl, hbw⟩ := hrel
    by_cases hlt : k < s.size
    · have e1 : numL (s.data.toList.take (k + 1)) = numL (s.data.toList.take k) * 256 + s[k].toNat := by rw [take_snoc s k hlt, numL_snoc]
      have b1 := numL_lt (s.data.toList.take k)
      have b2 : 256 ^ (s.data.toList.take k).length ≤ 256 ^ 6 := Nat.pow_le_pow_right (by omega) (by rw [List.length_take]; omega)
      have b3 : numL (s.data.toList.take k) < 281474976710656 := by omega
      have E1 := Lib.hid e1
      clear e1 b1 b2
      generalize numL (s.data.toList.take k) = x at *
      have HBW := Lib.hid hbw
      have i1 : (k : Int) < (s.size : Int) := by omega
      clear hbw
      have bb := s[k].toNat_lt
      go_wp2
      go_roundw
      case rel => exact ⟨k + 1, by omega, by go_num, by rw [E1.out]; first | rfl | go_num, by first | exact HBW.out | exact bn HBW.out _⟩
      case measure => simp [intOf]; omega
    · obtain rfl : k = s.size := by omega
      have e : s.data.toList.take s.size = s.data.toList := List.take_of_length_le (Nat.le_refl _)
      rw [e]
      go_wp2
      go_ret
      exact ⟨rfl, by first | exact hbw | exact bn hbw _⟩
end Fr
end Go.Proofs.YtdfdjampodkpgaaDoor
end
