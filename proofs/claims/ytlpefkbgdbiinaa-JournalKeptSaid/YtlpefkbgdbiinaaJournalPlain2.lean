/- Journals: what a crash leaves; plain facts. -/
import Derived.Test.YtlpefkbgdbiinaaJournalPlain
set_option linter.unusedVariables false
namespace Go.Proofs.Ytlpefkbgdbiinaa
namespace Fr
/-- of a text that was cut the first ones are read -/
theorem rd_take : ∀ (m : Nat) (s : List UInt8) (p : Nat), (∃ i, i ≤ (rd m s).1.length ∧ (rd m (s.take p)).1 = (rd m s).1.take i) ∧ (rd m (s.take p)).2 ≤ (rd m s).2
  | 0, s, p => by rw [rd_zero, rd_zero]; exact ⟨⟨0, by simp, by simp⟩, by simp⟩
  | m + 1, [], p => by simp [rd_nil]
  | m + 1, [a], p => by
    have : ([a].take p).length < 2 := by rw [List.length_take]; simp; omega
    rw [rd_short _ _ this]; exact ⟨⟨0, by simp, by simp⟩, by simp⟩
  | m + 1, a :: b :: l, 0 => by rw [List.take_zero, rd_nil]; exact ⟨⟨0, by simp, by simp⟩, by simp⟩
  | m + 1, a :: b :: l, 1 => by rw [rd_short (m + 1) ((a :: b :: l).take 1) (by simp)]; exact ⟨⟨0, by simp, by simp⟩, by simp⟩
  | m + 1, a :: b :: l, p + 2 => by
    rw [List.take_succ_cons, List.take_succ_cons, rd_cons, rd_cons]
    obtain ⟨n, hn⟩ : ∃ n, a.toNat * 256 + b.toNat = n := ⟨_, rfl⟩
    rw [hn]
    by_cases h1 : n ≤ 400 ∧ n ≤ (l.take p).length
    · have h2 : n ≤ 400 ∧ n ≤ l.length := ⟨h1.1, by have := h1.2; rw [List.length_take] at this; omega⟩
      have h3 : n ≤ p := by have := h1.2; rw [List.length_take] at this; omega
      rw [if_pos h1, if_pos h2]
      obtain ⟨⟨i, hi, i1⟩, i2⟩ := rd_take m (l.drop n) (p - n)
      have e1 : (l.take p).take n = l.take n := by rw [List.take_take, Nat.min_eq_left h3]
      have e2 : (l.take p).drop n = (l.drop n).take (p - n) := by rw [List.drop_take]
      rw [e1, e2]
      refine ⟨⟨i + 1, by simp; omega, by rw [List.take_succ_cons, i1]⟩, by omega⟩
    · rw [if_neg h1]
      exact ⟨⟨0, by simp, by simp⟩, by simp⟩
/-- what was read is read again -/
theorem rd_again (m : Nat) (s : List UInt8) : rd m (s.take (rd m s).2) = ((rd m s).1, (rd m s).2) := by
  obtain ⟨h1, h2, h3, h4⟩ := rd_was m s
  have := rd_enc (rd m s).1 h2 m [] h1
  rw [List.append_nil, rd_nil, List.append_nil, Nat.add_zero, h4] at this
  rw [this, List.length_take]
  congr 1; omega
end Fr
namespace Jr
open Fr
theorem whole_is {s : Bs} (h : wholeB s = true) : s.data.toList = encL (rd 64 s.data.toList).1 ∧ (rd 64 s.data.toList).1.length ≤ 64 ∧ small (rd 64 s.data.toList).1 := by
  obtain ⟨h1, h2, h3, h4⟩ := rd_was 64 s.data.toList
  have h5 : (rd 64 s.data.toList).2 = s.size := by unfold wholeB at h; exact of_decide_eq_true h
  have hl : s.data.toList.length = s.size := rfl
  rw [h5, ← hl, List.take_length] at h4
  exact ⟨h4.symm, h1, h2⟩
theorem whole_of (l : List Bs) (h : small l) (hl : l.length ≤ 64) : wholeB (mk (encL l)) = true := by
  unfold wholeB
  rw [mk_list, rd_back l h hl, mk_size]
  simp
theorem cut_list (s : Bs) : (cutJ s).data.toList = s.data.toList.take (rd 64 s.data.toList).2 := by
  unfold cutJ; rw [ext_list, List.drop_zero, Nat.sub_zero]
theorem cut_rd (s : Bs) : rd 64 (cutJ s).data.toList = rd 64 s.data.toList := by rw [cut_list, rd_again]
theorem cut_size (s : Bs) : (cutJ s).size = (rd 64 s.data.toList).2 := by
  have hl : (cutJ s).data.toList.length = (cutJ s).size := rfl
  have h3 := (rd_was 64 s.data.toList).2.2.1
  rw [← hl, cut_list, List.length_take]; omega
theorem cut_whole (s : Bs) : wholeB (cutJ s) = true := by unfold wholeB; rw [cut_rd, cut_size]; simp
theorem app_empty (s : Bs) : s ++ emptyS = s := by apply ba_ext; rw [ByteArray.data_append, Array.toList_append]; simp [emptyS]
theorem lok_one {s : Bs} (h : wholeB s = true) : lok s emptyS = true := by unfold lok; rw [app_empty, h]; rfl
theorem cut_self {s : Bs} (h : wholeB s = true) : cutJ s = s := by
  have h5 : (rd 64 s.data.toList).2 = s.size := by unfold wholeB at h; exact of_decide_eq_true h
  apply ba_ext
  rw [cut_list, h5]; exact List.take_of_length_le (Nat.le_refl _)
theorem ext_app (K T : Bs) (m : Nat) : (K ++ T.extract 0 m).data.toList = (K ++ T).data.toList.take (K.size + m) := by
  have hl : K.data.toList.length = K.size := rfl
  rw [ByteArray.data_append, Array.toList_append, ByteArray.data_append, Array.toList_append, ext_list, List.drop_zero, Nat.sub_zero, List.take_append, hl]
  rw [List.take_of_length_le (l := K.data.toList) (by omega), Nat.add_sub_cancel_left]
/-- a crash again loses nothing -/
theorem crash_again {K T : Bs} {k : Int} {A : Bs} (h : crashJ K T k = ((A, emptyS), 0)) (hk : lok K T = true ∧ 0 ≤ k ∧ k ≤ (T.size : Int)) : crashJ A emptyS 0 = ((A, emptyS), 0) := by
  have e : crashJ K T k = ((cutJ (K ++ T.extract 0 k.toNat), emptyS), 0) := by
    unfold crashJ; rw [if_pos hk.1, if_neg (by omega)]
  rw [e] at h
  have hA : cutJ (K ++ T.extract 0 k.toNat) = A := by injection h with h; injection h
  have hw : wholeB A = true := by rw [← hA]; exact cut_whole _
  unfold crashJ
  rw [if_pos (lok_one hw), if_neg (by decide)]
  have e2 : A ++ emptyS.extract 0 (0 : Int).toNat = A := by
    have : emptyS.extract 0 (0 : Int).toNat = emptyS := by rfl
    rw [this, app_empty]
  rw [e2, cut_self hw]
theorem crash_more (K T : Bs) (j k : Nat) (h : k ≤ j) : (cutJ (K ++ T.extract 0 k)).size ≤ (cutJ (K ++ T.extract 0 j)).size := by
  rw [cut_size, cut_size, ext_app, ext_app]
  have := (rd_take 64 ((K ++ T).data.toList.take (K.size + j)) (K.size + k)).2
  rw [List.take_take, Nat.min_eq_left (by omega)] at this
  exact this
theorem lok_add {K T s : Bs} (h : lok K T = true) (hs : s.size ≤ 400) (hn : (itemsJ K T).length ≠ 64) : lok K (T ++ framed s) = true ∧ itemsJ K (T ++ framed s) = itemsJ K T ++ [s] := by
  have hk : wholeB K = true ∧ wholeB (K ++ T) = true := by unfold lok at h; simpa using h
  obtain ⟨h1, h2, h3⟩ := whole_is hk.2
  have e : K ++ (T ++ framed s) = mk (encL (itemsJ K T ++ [s])) := by
    apply ba_ext
    unfold itemsJ
    rw [mk_list, encL_app, ← h1]
    unfold framed
    simp only [ByteArray.data_append, Array.toList_append, mk_list, List.append_assoc]
  have hsm : small (itemsJ K T ++ [s]) := by
    intro t ht
    rcases List.mem_append.mp ht with h | h
    · exact h3 t h
    · simp at h; subst h; exact hs
  have h2' : (itemsJ K T).length ≤ 64 := h2
  have hl : (itemsJ K T ++ [s]).length ≤ 64 := by rw [List.length_append]; simp; omega
  refine ⟨?_, ?_⟩
  · unfold lok; rw [e, whole_of _ hsm hl, hk.1]; rfl
  · show (rd 64 (K ++ (T ++ framed s)).data.toList).1 = _
    rw [e, mk_list, rd_back _ hsm hl]
theorem lok_sync {K T : Bs} (h : lok K T = true) : lok (K ++ T) emptyS = true ∧ itemsJ (K ++ T) emptyS = itemsJ K T := by
  have hk : wholeB K = true ∧ wholeB (K ++ T) = true := by unfold lok at h; simpa using h
  refine ⟨lok_one hk.2, ?_⟩
  unfold itemsJ; rw [app_empty]
/-- behind a crash: the first ones of all, and all that was synced -/
theorem crash_kept {X T : Bs} (h : lok X T = true) (m : Nat) (hm : m ≤ T.size) :
    ∃ i, i ≤ (itemsJ X T).length ∧ itemsJ (cutJ (X ++ T.extract 0 m)) emptyS = (itemsJ X T).take i ∧ (itemsJ X emptyS).length ≤ i ∧ (itemsJ (cutJ (X ++ T.extract 0 m)) emptyS).take (itemsJ X emptyS).length = itemsJ X emptyS ∧ (m = T.size → i = (itemsJ X T).length) := by
  have hl : X.data.toList.length = X.size := rfl
  have e0 : itemsJ (cutJ (X ++ T.extract 0 m)) emptyS = (rd 64 (X ++ T.extract 0 m).data.toList).1 := by unfold itemsJ; rw [app_empty, cut_rd]
  have e1 : itemsJ X emptyS = (rd 64 X.data.toList).1 := by unfold itemsJ; rw [app_empty]
  obtain ⟨⟨i, hi, i1⟩, _⟩ := rd_take 64 (X ++ T).data.toList (X.size + m)
  obtain ⟨⟨j, hj, j1⟩, _⟩ := rd_take 64 (X ++ T.extract 0 m).data.toList X.size
  have e2 : (X ++ T.extract 0 m).data.toList.take X.size = X.data.toList := by
    rw [ByteArray.data_append, Array.toList_append, ← hl, List.take_left']; rfl
  rw [e2] at j1
  rw [← ext_app] at i1
  have hjl : (rd 64 X.data.toList).1.length = j := by rw [j1, List.length_take]; omega
  have hil : (rd 64 (X ++ T.extract 0 m).data.toList).1.length = i := by rw [i1, List.length_take]; omega
  refine ⟨i, hi, ?_, ?_, ?_, fun hmT => ?_⟩
  · rw [e0, i1]; rfl
  · rw [e1]; omega
  · rw [e0, e1, hjl, ← j1]
  · have e3 : X ++ T.extract 0 m = X ++ T := by
      apply ba_ext
      rw [ext_app, hmT]
      exact List.take_of_length_le (by rw [ByteArray.data_append, Array.toList_append, List.length_append, hl]; exact Nat.le_refl _)
    rw [e3] at hil
    rw [← hil]; rfl
end Jr
end Go.Proofs.Ytlpefkbgdbiinaa
