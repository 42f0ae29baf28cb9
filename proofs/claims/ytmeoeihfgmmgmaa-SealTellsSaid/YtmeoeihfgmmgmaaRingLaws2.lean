/- The laws on who is added and on what opens. -/
import Derived.Test.YtmeoeihfgmmgmaaRingEnd
import Derived.Test.YtmeoeihfgmmgmaaRingKey
import Derived.Deep.RegionHeld3
import Derived.OwnWalk
set_option linter.unusedVariables false
namespace Go.Proofs.Ytmeoeihfgmmgmaa
open Go.RowKit
namespace Rg
open Tg
theorem drop_added {xs : List Ep} (hc : chk xs = 0) (h8 : xs.length < 8) (hne : lastNo xs ≠ 255) (k : W64 × W64) : dropF (xs ++ [(lastNo xs + 1, k)]) (lastNo xs + 1) = (xs, 0) := by
  have hca := chk_add hc h8 hne k
  obtain ⟨_, _, hp⟩ := chk_spec hca
  have hl : xs.length < (xs ++ [(lastNo xs + 1, k)]).length := by simp
  have hat := atN_self _ xs.length hl hp
  have he : (xs ++ [(lastNo xs + 1, k)])[xs.length]'hl = (lastNo xs + 1, k) := by simp
  rw [he] at hat
  simp only at hat
  unfold dropF
  rw [if_neg (fun h => h hca), hat, if_neg (by simp)]
  congr 1
  rw [List.eraseIdx_append_of_length_le (Nat.le_refl _)]
  simp
set_option maxHeartbeats 2000000 in
theorem radds_bad (v : Value) (xs : List Ep) (a b : W64) (w : World) (h : Rd 3 eE w v xs) (e : Int) (he : e ≠ 0) (hF : addF xs (a, b) = ([], e)) :
    Calls Try.prog 7 #[v, aKey a b] w fun e w' => e = .returned (.bool true) ∧ Below w.heap.size w w' := by
  have H := Lib.hid h
  have C1 := Lib.hid (add_any v xs a b)
  rw [hF] at C1
  have hb : (e != 0) = true := by simp [he]
  unfold aKey at C1 ⊢
  clear hF h
  go_enter Try.func7, Try.ntmps7
  go_wp2_with fail
  refine (C1.out _ (H.out.below ((br w).alloc (Nat.le_refl _) _))).mono ?_
  rintro en w1 ⟨v1, rfl, r1, b1⟩
  have B1 := Lib.hid (bt ((br w).alloc (Nat.le_refl _) _) b1); clear b1
  obtain ⟨a1, c1, rfl, _, _, _⟩ := r1
  go_wp2_with fail
  refine (begun_any _).mono ?_
  rintro en w2 ⟨rfl, b2⟩
  have B2 := Lib.hid (bt B1.out b2); clear b2
  go_wp2_with fail
  go_ret
  exact ⟨by first | rfl | (simp; done), B2.out⟩
set_option maxHeartbeats 4000000 in
theorem radds_ok (v : Value) (xs : List Ep) (a b : W64) (w : World) (h : Rd 3 eE w v xs) (L : Int) (h8 : xs.length < 8) (hL : -1 ≤ L ∧ L ≤ 300) (A : List Ep) (hAl : A.length = xs.length + 1) (hAn : A[xs.length]'(by omega) = (L, a, b))
    (C1 : RowKit.Hid (∀ w, Rd 3 eE w v xs → Calls Try.prog 8 #[v, .agg #[.int .u64 (wi a), .int .u64 (wi b)]] w (RingQ (A, 0) w)))
    (C2 : RowKit.Hid (∀ v w, Rd 3 eE w v A → Calls Try.prog 13 #[v] w (ErrQ 0 w)))
    (C3 : RowKit.Hid (∀ v w, Rd 3 eE w v A → Calls Try.prog 9 #[v, .int .i64 L] w (RingQ (xs, 0) w))) :
    Calls Try.prog 7 #[v, aKey a b] w fun e w' => e = .returned (.bool true) ∧ Below w.heap.size w w' := by
  have H := Lib.hid h
  obtain ⟨ad, cap, rfl, h1, h2, h3⟩ := h
  have hwi : IntKind.i64.wrap ((xs.length : Int) + 1) = (A.length : Int) := by rw [IntKind.wrap_i64]; omega
  have hwj : IntKind.i64.wrap ((A.length : Int) - 1) = (xs.length : Int) := by rw [IntKind.wrap_i64]; omega
  have hi1 : (xs.length : Int) < (A.length : Int) := by omega
  have hi0 : (0 : Int) ≤ (xs.length : Int) := by omega
  have C4 : RowKit.Hid (∀ v u w, Rd 3 eE w v xs → Rd 3 eE w u xs → Calls Try.prog 15 #[v, u] w fun e w' => e = .returned (.bool true) ∧ Below w.heap.size w w') := fun v u w h1 h2 => by
    have := same_any v u xs xs w h1 h2
    rw [decide_eq_true rfl] at this
    exact this
  unfold aKey
  clear h3
  go_enter Try.func7, Try.ntmps7
  go_wp2_with fail
  refine (C1.out _ (H.out.below ((br w).alloc (Nat.le_refl _) _))).mono ?_
  rintro en w1 ⟨v1, rfl, r1, b1⟩
  have B1 := Lib.hid (bt ((br w).alloc (Nat.le_refl _) _) b1)
  have k0 : w1.cell? ⟨w.heap.size, 0, none⟩ = some (.int .u64 (wi a)) := boxc (bx b1) 0
  have k1 : w1.cell? ⟨w.heap.size, 1, none⟩ = some (.int .u64 (wi b)) := boxc (bx b1) 1
  have R1 := Lib.hid (show Rd 3 eE w1 v1 A from r1)
  clear b1 r1
  obtain ⟨a1, c1, rfl, l1, l2, l3⟩ := R1.out
  obtain ⟨gg, off, rfl, hbl, hcc⟩ := l3 (by rw [hAl]; omega)
  have q := eE_at hcc xs.length (by omega)
  rw [hAn] at q
  obtain ⟨q0, q1, q2⟩ := q
  simp only at q0 q1 q2
  have HAL := Lib.hid hAl
  have hA8 : A.length ≤ 8 := by omega
  clear hcc l3 hAn hAl
  go_wp2_with fail
  refine (begun_any _).mono ?_
  rintro en w2 ⟨rfl, b2⟩
  have B2 := Lib.hid (bt B1.out b2)
  have R2 := Lib.hid (R1.out.below b2)
  replace k0 := kp b2 k0; replace k1 := kp b2 k1
  replace q0 := kp b2 q0; replace q1 := kp b2 q1; replace q2 := kp b2 q2
  clear b2
  go_wp2_with fail
  have hbg : w.heap.size < w2.heap.size := World.block_lt_of_cell? w2 _ k0
  have hbq : gg < w2.heap.size := World.block_lt_of_cell? w2 _ q0
  go_region_held3 (fun w' => w'.cell? ⟨w.heap.size, 0, none⟩ = some (.int .u64 (wi a)) ∧ w'.cell? ⟨w.heap.size, 1, none⟩ = some (.int .u64 (wi b)) ∧ w'.cell? ⟨gg, off + xs.length * 3 + 1, none⟩ = some (.int .u64 (wi a)) ∧ w'.cell? ⟨gg, off + xs.length * 3 + 2, none⟩ = some (.int .u64 (wi b)))
    (first | go_keep | (go_split_ands; exact ⟨kp hb3 k0, kp hb3 k1, kp hb3 q1, kp hb3 q2⟩))
    (first
      | (go_at_call 13; (with_reducible refine (C2.out _ _ (rd_dr R2.out)).mono ?_); rintro en w3 ⟨rfl, hb3⟩; have hb3 : Below w2.heap.size w2 w3 := bd (br w2) hb3)
      | fail)
  have B3 := Lib.hid (bt B2.out hb3)
  have R3 := Lib.hid (R2.out.below hb3)
  have c0 := kp hb3 q0
  rename_i hb3' hHeld
  clear hb3 hb3' hHeld k0 k1 q0 q1 q2 hbg hbq
  go_wp2_with fail
  refine (C3.out _ _ R3.out).mono ?_
  rintro en w4 ⟨v4, rfl, r4, b4⟩
  have B4 := Lib.hid (bt B3.out b4)
  have R4 := Lib.hid (show Rd 3 eE w4 v4 xs from r4)
  clear b4 r4
  go_wp2_with fail
  refine (C4.out _ _ _ R4.out (H.out.below B4.out)).mono ?_
  rintro en w5 ⟨rfl, b5⟩
  have B5 := Lib.hid (bt B4.out b5)
  clear b5
  go_wp2_with fail
  go_ret
  exact ⟨by first | rfl | (simp; done), B5.out⟩
theorem radds_end (v : Value) (xs : List Ep) (k : W64 × W64) (w : World) (h : Rd 3 eE w v xs) (_ : True) : Calls Try.prog 7 #[v, aK k.1 k.2] w fun e w' => e = .returned (.bool true) ∧ Below w.heap.size w w' := by
  obtain ⟨a, b⟩ := k
  rcases add_cases xs (a, b) with ⟨hc, hA⟩ | ⟨_, _, _, hA⟩ | ⟨hc, hl8, hne, hA⟩
  · exact radds_bad v xs a b w h _ hc hA
  · exact radds_bad v xs a b w h _ (by decide) hA
  · have hca := chk_add hc hl8 hne (a, b)
    have hb := last_bd hc
    have c1 := add_any v xs a b
    rw [hA] at c1
    refine radds_ok v xs a b w h (lastNo xs + 1) hl8 (by omega) (xs ++ [(lastNo xs + 1, (a, b))]) (by simp) (by simp) (Lib.hid c1) (Lib.hid ?_) (Lib.hid ?_)
    · intro v w hv
      have := check_any v _ w hv
      rw [hca] at this
      exact this
    · intro v w hv
      have := drop_any v _ (lastNo xs + 1) w hv
      rw [drop_added hc hl8 hne] at this
      exact this
theorem open_ok {xs : List Ep} {t s : ByteArray} {no : Int} (hF : openF xs t = (s, no, 0)) : ∃ k : W64 × W64, keyF no xs = (k, true) ∧ sealF [(no, k)] s = (t, 0) ∧ s.size ≤ 120 := by
  rcases open_cases xs t with ⟨hc, h⟩ | ⟨_, _, h⟩ | ⟨_, _, h⟩ | ⟨_, _, _, _, h⟩ | ⟨hlt, hc, h9, h120, hm, h⟩ | ⟨hlt, _, _, _, _, h⟩
  · rw [hF] at h; injection h with _ h; injection h with _ h; exact absurd h.symm hc
  · rw [hF] at h; simp at h
  · rw [hF] at h; simp at h
  · rw [hF] at h; simp at h
  · rw [hF] at h
    injection h with hs h
    injection h with hno _
    subst hs
    have hat := (atN_spec no xs).2 (by rw [hno]; exact hlt)
    obtain ⟨_, hr, _⟩ := chk_spec hc
    simp only [← hno] at hlt hm
    have hrx := hr xs[atN no xs] (List.getElem_mem hlt)
    have hk : keyF no xs = (xs[atN no xs].2, true) := by unfold keyF; rw [List.getElem?_eq_getElem hlt]
    have hb1 : (bodyOf t).size = t.size - 8 := by unfold bodyOf; simp
    refine ⟨xs[atN no xs].2, hk, ?_, by simp [hb1]; omega⟩
    have hchk : chk [(no, xs[atN no xs].2)] = 0 := by
      rw [hat] at hrx
      exact chk_of (by simp) (fun x hx => by have e : x = (no, xs[atN no xs].2) := by simpa using hx
                                             subst e; exact hrx) (List.pairwise_singleton _ _)
    have hbody : oneB no ++ (bodyOf t).extract 1 (t.size - 8) = bodyOf t := by
      apply ba_ext
      have hl : (bodyOf t).data.toList.length = t.size - 8 := by rw [← hb1]; rfl
      have hl1 : t.data.toList.length = t.size := rfl
      have hd : (bodyOf t).data.toList = t.data.toList.take (t.size - 8) := by
        unfold bodyOf; simp [List.extract_eq_take_drop]
      obtain ⟨c, l, hcl⟩ : ∃ c l, t.data.toList = c :: l := by
        cases h : t.data.toList with
        | nil => rw [h] at hl1; simp at hl1; omega
        | cons c l => exact ⟨c, l, rfl⟩
      obtain ⟨m, hm8⟩ : ∃ m, t.size - 8 = m + 1 := ⟨t.size - 9, by omega⟩
      have hf : firstB t = (c.toNat : Int) := by unfold firstB; rw [hcl]; rfl
      have ho : (oneB no).data.toList = [c] := by
        unfold oneB; rw [hno, hf]; simp
      have hx : ((bodyOf t).extract 1 (t.size - 8)).data.toList = l.take m := by
        rw [hm8]; simp only [ByteArray.data_extract, Array.toList_extract, List.extract_eq_take_drop, hd, hcl, hm8]
        simp [List.take_take]
      rw [ByteArray.data_append, Array.toList_append, ho, hx, hd, hcl, hm8]
      rfl
    unfold sealF
    rw [if_neg (fun h => h hchk)]
    have hsz : ((bodyOf t).extract 1 (t.size - 8)).size = t.size - 9 := by simp [hb1]; omega
    simp only [List.getLast?_singleton]
    rw [if_neg (by rw [hsz]; omega)]
    unfold sealed
    simp only
    rw [hbody, hm]
  · rw [hF] at h; simp at h
set_option maxHeartbeats 2000000 in
theorem oonly_bad (v : Value) (xs : List Ep) (t : ByteArray) (w : World) (h : Rd 3 eE w v xs) (hss : t.size ≤ 9223372036854775807) (e : Int) (he : e ≠ 0) (hF : openF xs t = (emptyS, 0, e)) :
    Calls Try.prog 6 #[v, .string t] w fun e w' => e = .returned (.bool true) ∧ Below w.heap.size w w' := by
  have H := Lib.hid h
  have C1 := Lib.hid (open_any v xs t hss)
  rw [hF] at C1
  have hb : (e != 0) = true := by simp [he]
  have hz : emptyS.toList = [] := by rw [ByteArray.toList_eq]; rfl
  clear hF h
  go_enter Try.func6, Try.ntmps6
  go_wp2_with fail
  refine (C1.out _ H.out).mono ?_
  rintro en w1 ⟨rfl, b1⟩
  have B1 := Lib.hid b1; clear b1
  go_wp2_with fail
  refine (begun_any _).mono ?_
  rintro en w2 ⟨rfl, b2⟩
  have B2 := Lib.hid (bt B1.out b2); clear b2
  go_wp2_with fail
  go_ret
  exact ⟨by first | rfl | (simp; done), B2.out⟩
set_option maxHeartbeats 2000000 in
theorem oonly_ok (v : Value) (xs : List Ep) (t s : ByteArray) (no : Int) (ka kb : W64) (w : World) (h : Rd 3 eE w v xs)
    (C1 : RowKit.Hid (∀ w, Rd 3 eE w v xs → Calls Try.prog 17 #[v, .string t] w (OpenQ (s, no, 0) w)))
    (C2 : RowKit.Hid (∀ w, Rd 3 eE w v xs → Calls Try.prog 20 #[v, .int .i64 no] w (KeyQ ((ka, kb), true) w)))
    (C3 : RowKit.Hid (∀ v w, Rd 3 eE w v [(no, ka, kb)] → Calls Try.prog 16 #[v, .string s] w (SealQ (t, 0) w))) :
    Calls Try.prog 6 #[v, .string t] w fun e w' => e = .returned (.bool true) ∧ Below w.heap.size w w' := by
  have H := Lib.hid h
  unfold KeyQ aKey at C2
  clear h
  go_enter Try.func6, Try.ntmps6
  go_wp2_with fail
  refine (C1.out _ H.out).mono ?_
  rintro en w1 ⟨rfl, b1⟩
  have B1 := Lib.hid b1; clear b1
  go_wp2_with fail
  refine (begun_any _).mono ?_
  rintro en w2 ⟨rfl, b2⟩
  have B2 := Lib.hid (bt B1.out b2); clear b2
  go_wp2_with fail
  refine (C2.out _ (H.out.below B2.out)).mono ?_
  rintro en w3 ⟨rfl, b3⟩
  have B3 := Lib.hid (bt B2.out b3); clear b3
  go_wp2_with fail
  have rd := Lib.hid (rd1a (w3.alloc (.cells #[.int .u64 (wi ka), .int .u64 (wi kb)] 25)) no ka kb 40 (w3.heap.size + 1) (by simp))
  have B4 := Lib.hid ((B3.out.alloc B3.out.size (.cells #[.int .u64 (wi ka), .int .u64 (wi kb)] 25)).alloc (by have := B3.out.size; simp; omega) (.cells #[.int .i64 no, .int .u64 (wi ka), .int .u64 (wi kb)] 40))
  refine (C3.out _ _ rd.out).mono ?_
  rintro en w5 ⟨rfl, b5⟩
  have B5 := Lib.hid (bt B4.out b5)
  clear b5
  go_wp2_with fail
  go_ret
  exact ⟨by first | rfl | (simp; done), B5.out⟩
theorem oonly_end (v : Value) (xs : List Ep) (t : ByteArray) (w : World) (h : Rd 3 eE w v xs) (hs : t.size ≤ maxLen) : Calls Try.prog 6 #[v, .string t] w fun e w' => e = .returned (.bool true) ∧ Below w.heap.size w w' := by
  have hss : t.size ≤ 9223372036854775807 := by unfold maxLen at hs; omega
  by_cases he : (openF xs t).2.2 = 0
  · obtain ⟨⟨s, no, e⟩, hF⟩ : ∃ r, openF xs t = r := ⟨_, rfl⟩
    rw [hF] at he
    simp only at he
    subst he
    obtain ⟨⟨ka, kb⟩, hk, hsl, hsz⟩ := open_ok hF
    have c1 := open_any v xs t hss
    rw [hF] at c1
    have c2 := key_any v xs no
    rw [hk] at c2
    refine oonly_ok v xs t s no ka kb w h (Lib.hid c1) (Lib.hid c2) (Lib.hid ?_)
    intro v w hv
    have := seal_any v _ s (by omega) w hv
    rw [hsl] at this
    exact this
  · have hF : openF xs t = (emptyS, 0, (openF xs t).2.2) := by
      rcases open_cases xs t with ⟨_, h⟩ | ⟨_, _, h⟩ | ⟨_, _, h⟩ | ⟨_, _, _, _, h⟩ | ⟨_, _, _, _, _, h⟩ | ⟨_, _, _, _, _, h⟩
      · rw [h]
      · rw [h]
      · rw [h]
      · rw [h]
      · rw [h] at he; exact absurd rfl he
      · rw [h]
    exact oonly_bad v xs t w h hss _ he hF
end Rg
end Go.Proofs.Ytmeoeihfgmmgmaa
